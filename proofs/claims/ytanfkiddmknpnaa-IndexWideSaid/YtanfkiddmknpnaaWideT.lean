/- THE WALKS over the statement's own table (two maps). -/
import Derived.Test.YtanfkiddmknpnaaTabOk
import Derived.Test.YtanfkiddmknpnaaIdxA
import Derived.Test.YtanfkiddmknpnaaWide0
import Derived.OwnWalk
set_option linter.unusedVariables false
namespace Go.Proofs.Ytanfkiddmknpnaa.Wide
open Go.RowKit Winnow

theorem typedK : Typed Try.prog 30 3 22 .i64 .u64 := ⟨Try.underlying30, Try.underlying3, Try.underlying22, fun w => by kernel_rfl⟩
theorem typedP : Typed Try.prog 31 22 3 .u64 .i64 := ⟨Try.underlying31, Try.underlying22, Try.underlying3, fun w => by kernel_rfl⟩
abbrev MapK := MapF Try.prog 3 22 .i64 .u64
abbrev MapP := MapF Try.prog 22 3 .u64 .i64

/-- The table in memory. -/
structure TabAt (w : World) (tb kb pb n e : Nat) (S : Tb Value) (c : Nat) : Prop where
  c0 : w.cell? ⟨tb, 0, none⟩ = some (.int .i64 n)
  c1 : w.cell? ⟨tb, 1, none⟩ = some (.int .i64 e)
  c2 : w.cell? ⟨tb, 2, none⟩ = some (.map (some kb))
  c3 : w.cell? ⟨tb, 3, none⟩ = some (.map (some pb))
  ne : tb ≠ kb ∧ tb ≠ pb ∧ kb ≠ pb
  k : ∃ f, KeyOf n S f ∧ MapK w kb f c
  p : ∃ f, PlaceOf n S f ∧ MapP w pb f c

variable {w : World} {tb kb pb n e c : Nat} {S : Tb Value}
theorem TabAt.of_blocks {w' : World} (h : TabAt w tb kb pb n e S c) (h1 : w'.heap[tb]? = w.heap[tb]?) (h2 : w'.heap[kb]? = w.heap[kb]?) (h3 : w'.heap[pb]? = w.heap[pb]?) : TabAt w' tb kb pb n e S c := by
  have cb : ∀ o, w'.cell? ⟨tb, o, none⟩ = w.cell? ⟨tb, o, none⟩ := fun o => World.cell?_of_block h1
  obtain ⟨f, f1, f2⟩ := h.k
  obtain ⟨g, g1, g2⟩ := h.p
  exact ⟨(cb 0).trans h.c0, (cb 1).trans h.c1, (cb 2).trans h.c2, (cb 3).trans h.c3, h.ne, ⟨f, f1, f2.of_block h2⟩, ⟨g, g1, g2.of_block h3⟩⟩
theorem TabAt.lt (h : TabAt w tb kb pb n e S c) : tb < w.heap.size ∧ kb < w.heap.size ∧ pb < w.heap.size := by
  obtain ⟨f, _, f2⟩ := h.k
  obtain ⟨g, _, g2⟩ := h.p
  exact ⟨cell_lt h.c0, f2.lt, g2.lt⟩
theorem TabAt.frm {T : List Nat} {w' : World} (h : TabAt w tb kb pb n e S c) (f : Frm T w w') (h1 : tb ∉ T) (h2 : kb ∉ T) (h3 : pb ∉ T) : TabAt w' tb kb pb n e S c :=
  h.of_blocks (f.block _ h.lt.1 h1) (f.block _ h.lt.2.1 h2) (f.block _ h.lt.2.2 h3)

theorem frm_of_grown {w w' : World} {B : Nat} (h : w.grownBy w' (some B)) : Frm [B] w w' := ⟨h.os, h.tape, h.output, h.size, fun k hk hs => h.block k hk (fun e => hs (by cases e; simp))⟩

set_option maxHeartbeats 400000 in
theorem home_c (h1 : w.cell? ⟨tb, 1, none⟩ = some (.int .i64 e)) (g : Geo n e) (key : Nat) :
    Calls Try.prog 16 #[.pointer (some ⟨tb, 0, none⟩), .int .u64 key] w fun r w' => r = .returned (.int .i64 (home n key)) ∧ w = w' := by
  have hs := g.small
  have hp := g.pos
  have hge := g.ge
  have hle := g.le
  have hh := home_lt g.pos key
  have hsh : IntKind.u64.wrap ((key : Int) * 11400714819323198485) / 2 ^ (64 - e) = ((home n key : Nat) : Int) := by
    rw [← home_shift g, IntKind.wrap_u64, Int.natCast_ediv, Int.natCast_emod, Int.natCast_mul, Int.natCast_pow]; rfl
  have HS := hid hsh
  generalize home n key = hm at HS hh ⊢
  clear g hsh
  go_enter Try.func16, Try.ntmps16
  go_wp2
  go_ret
  refine ⟨IdxI.ret_int ?_, rfl⟩
  rw [HS.out]
  exact IntWalk.wrap64_in _ ⟨by omega, by omega⟩

theorem lwf64 {n : Nat} (h : n ≤ 9223372036854775807) : lwf .i64 (n : Int) := by unfold lwf; exact WalkArith.wf_i64 (by omega)
theorem lwfu {n : Nat} (h : n < 18446744073709551616) : lwf .u64 (n : Int) := by
  unfold lwf; exact WalkArith.wf_u64 (by omega)

/-- A put of a key that is not there. -/
theorem put_c (h : TabAt w tb kb pb n e S c) (g : Geo n e) (I : Inv n S) {em : Nat} (hem : em < n) (hemp : S em = none) (hc : c ≤ n) {key : Nat} (hkey : key < 18446744073709551616) (hnk : S (find n S key) = none) (v : Value) :
    Calls Try.prog 11 #[.pointer (some ⟨tb, 0, none⟩), .int .u64 key] w fun r w' => r = .returned (.tuple #[]) ∧ Frm [kb, pb] w w' ∧ TabAt w' tb kb pb n e (putAt n S key v) (c + 1) := by
  have hs := g.small
  have hp := g.pos
  have hh := home_lt g.pos key
  have hq := find_lt g.pos S key
  have hno : ∀ p u, p < n → S p ≠ some (key, u) := fun p u hp hs' => by
    have := I.find_of hem hemp hp hs'; rw [this] at hnk; rw [hnk] at hs'; simp at hs'
  have hstop := (find_spec hem hemp key).1
  have hfree : ∀ a, a < n → stopAt S key a = false → ∃ k : Nat, ∃ u, S a = some (k, u) := by
    intro a ha hst
    cases hsa : S a with
    | none => simp [stopAt, hsa] at hst
    | some x => exact ⟨x.1, x.2, rfl⟩
  have hfree2 : ∀ a, a < n → stopAt S key a = true → S a = none := by
    intro a ha hst
    cases hsa : S a with
    | none => rfl
    | some x =>
      obtain ⟨k, u⟩ := x
      have := stopAt_some hst hsa
      subst this
      exact absurd hsa (hno a u ha)
  obtain ⟨f, f1, f2⟩ := h.k
  obtain ⟨f', g1, g2⟩ := h.p
  have c0 := h.c0
  have c2 := h.c2
  have c3 := h.c3
  obtain ⟨ne1, ne2, ne3⟩ := h.ne
  have hlt := h.lt
  have hl1 := hlt.1
  have hl2 := hlt.2.1
  have hl3 := hlt.2.2
  have H1 := hid (home_c h.c1 g key)
  have HF : Hid (find n S key = findGo n S key n (home n key)) := rfl
  have HT := hid h
  have F1 := hid f1
  have F2 := hid f2
  have G1 := hid g1
  have G2 := hid g2
  have HH := hid hfree
  have HH2 := hid hfree2
  have HN := hid hno
  have HNK := hid hnk
  have HS := hid hstop
  have hfk : f' key = none := by
    cases hf : f' key with
    | none => rfl
    | some p => obtain ⟨q, _, hq', u, hu⟩ := (g1 key p).1 hf; exact absurd hu (hno q u hq')
  have HFK := hid hfk
  have K1 := lwf64 (n := find n S key) (by omega)
  have K2 := lwfu hkey
  unfold putAt
  generalize find n S key = q at *
  generalize home n key = h0 at *
  clear h hlt g f1 f2 g1 g2 hfree hfree2 hno hnk hfk hstop
  go_enter Try.func11, Try.ntmps11
  go_wp2_with (go_at_call 16; refine H1.out.mono ?_; rintro e w' ⟨rfl, rfl⟩)
  clear H1
  go_loopg [4] n (fun gg s4 wr => w = wr ∧ ∃ a : Nat, s4 = .int .i64 a ∧ a < n ∧ Hid (q = findGo n S key gg a))
  case atStart => exact ⟨rfl, h0, rfl, hh, HF⟩
  case round =>
    clear HF
    obtain ⟨rfl, a, rfl, ha, hg⟩ := hrel
    have KA := lwf64 (n := a) (by omega)
    by_cases hst : stopAt S key a = true
    · have hqa : q = a := by have := hg.out; rw [findGo_stop hst] at this; exact this
      have HSA := hid (HH2.out a ha hst)
      have hfa : f a = none := F1.out.none HSA.out
      have FA := hid hfa
      clear hst hg hfa
      subst hqa
      have C1 : c < maxLen := by unfold maxLen; omega
      go_wp2_with (first
        | (at_lookup; refine wpList_F_look_ok_none _ rfl _ _ _ rfl typedK kb c f rfl F2.out _ rfl KA FA.out ?_)
        | (at_mapUpdate; refine wpList_F_store_new _ rfl _ _ _ _ rfl typedK kb c f rfl F2.out C1 _ _ rfl rfl KA K2 FA.out ?_; intro w1 m1 gr1; have d3 : w1.cell? ⟨tb, 3, none⟩ = some (.map (some pb)) := (World.cell?_of_block (gr1.block tb hl1 (by simp; exact ne1))).trans c3; have M1 := hid m1; have GR1 := hid gr1; have G3 := hid (MapF.kept G2.out gr1 (by simp; exact fun e => ne3 e.symm)); clear m1 gr1)
        | (at_mapUpdate; refine wpList_F_store_new _ rfl _ _ _ _ rfl typedP pb c f' rfl G3.out C1 _ _ rfl rfl K2 KA HFK.out ?_; intro w2 m2 gr2; have M2 := hid m2; have GR2 := hid gr2; clear m2 gr2))
      go_end0
      have fr1 := frm_of_grown GR1.out
      have fr2 := frm_of_grown GR2.out
      have hfr : Frm [kb, pb] w w2 := (fr1.mono (by simp)).trans (fr2.mono (by simp))
      refine ⟨rfl, hfr, ?_⟩
      have cb : ∀ o, w2.cell? ⟨tb, o, none⟩ = w.cell? ⟨tb, o, none⟩ := fun o => World.cell?_of_block (hfr.block tb hl1 (by simp; exact ⟨ne1, ne2⟩))
      refine ⟨(cb 0).trans HT.out.c0, (cb 1).trans HT.out.c1, (cb 2).trans HT.out.c2, (cb 3).trans HT.out.c3, HT.out.ne, ⟨_, F1.out.put hq, M1.out.kept GR2.out (by simp; exact ne3)⟩, ⟨_, G1.out.put hq HNK.out HN.out, M2.out⟩⟩
    · have hst' : stopAt S key a = false := by simpa using hst
      obtain ⟨k, u, hsa⟩ := HH.out a ha hst'
      have hfa : f a = some (k : Int) := F1.out.some ha hsa
      have FA := hid hfa
      have HG : Hid (∃ gg', gg' < gk ∧ q = findGo n S key gg' (nx n a)) := by
        cases gk with
        | zero => exfalso; have := hg.out; simp only [findGo] at this; have h' := HS.out; rw [this, hst'] at h'; exact absurd h' (by decide)
        | succ m => exact ⟨m, by omega, by have := hg.out; rw [findGo_go hst'] at this; exact this⟩
      have hnx := nx_lt ha
      have hmod : Hid (((a : Int) + 1) % (n : Int) = ((nx n a : Nat) : Int)) := by rw [← nx_mod ha]; exact hid rfl
      clear hst hst' hg hfa hsa
      generalize nx n a = a' at HG hnx hmod
      go_wp2_with (first
        | (at_lookup; refine wpList_F_look_ok_some _ rfl _ _ _ rfl typedK kb c f rfl F2.out _ rfl KA _ FA.out ?_))
      obtain ⟨gg', hgg, hq'⟩ := HG.out
      go_roundg gg'
      case measure => omega
      case rel => exact ⟨rfl, a', by rw [hmod.out], hnx, hq'⟩

theorem mod_dist {n a b : Nat} (ha : a < n) (hb : b < n) : ((b : Int) - (a : Int) + (n : Int)).tmod (n : Int) = ((dist n a b : Nat) : Int) := by
  rw [Int.tmod_eq_emod_of_nonneg (by omega)]
  rcases dc n a b with ⟨h1, h2⟩ | ⟨h1, h2⟩
  · rw [h2, show (b : Int) - a + n = (b - a) + n from by omega, Int.add_emod_right, Int.emod_eq_of_lt (by omega) (by omega)]; omega
  · rw [h2, Int.emod_eq_of_lt (by omega) (by omega)]; omega

/-- The state of the drop's loop. -/
structure DropAt (w wr : World) (tb kb pb n e em c : Nat) (F S : Tb Value) (f i k : Nat) : Prop where
  D : Dst n S i k em
  d : dist n k em ≤ f
  go : dropGo n f S i k = F
  T : TabAt wr tb kb pb n e S c
  ks : ∀ i k u, S i = some (k, u) → k < 18446744073709551616
  fr : Frm [kb, pb] w wr

set_option maxRecDepth 100000 in
set_option maxHeartbeats 2000000 in
theorem drop_c (h : TabAt w tb kb pb n e S (c + 1)) (g : Geo n e) (I : Inv n S) {em : Nat} (hem : em < n) (hemp : S em = none) (hc : c + 1 ≤ n) {key : Nat} {v0 : Value} (hs0 : S (find n S key) = some (key, v0)) (hks : ∀ i k u, S i = some (k, u) → k < 18446744073709551616) :
    Calls Try.prog 9 #[.pointer (some ⟨tb, 0, none⟩), .int .u64 key] w fun r w' => r = .returned (.tuple #[]) ∧ Frm [kb, pb] w w' ∧ TabAt w' tb kb pb n e (dropAt n S (find n S key)) c := by
  have hs := g.small
  have hp := g.pos
  have hq := find_lt g.pos S key
  have hkey : key < 18446744073709551616 := hks _ _ _ hs0
  have hne : find n S key ≠ em := fun e' => by rw [e', hemp] at hs0; simp at hs0
  obtain ⟨f, f1, f2⟩ := h.k
  obtain ⟨f', g1, g2⟩ := h.p
  have c0 := h.c0
  have c2 := h.c2
  have c3 := h.c3
  obtain ⟨ne1, ne2, ne3⟩ := h.ne
  have hl1 := h.lt.1
  have hfp : f' key = some (find n S key : Int) := (g1 key _).2 ⟨_, rfl, hq, v0, hs0⟩
  have hfk : f (find n S key : Nat) = some (key : Int) := f1.some hq hs0
  have F2 := hid f2
  have G2 := hid g2
  have FP := hid hfp
  have FK := hid hfk
  have HF : Hid (dropGo n n (upd S (find n S key) none) (find n S key) (nx n (find n S key)) = dropAt n S (find n S key)) := rfl
  have HD := hid (Dst.start I hq hem hemp hne)
  have HDl : Hid (dist n (nx n (find n S key)) em ≤ n) := hid (Nat.le_of_lt (dist_lt (nx_lt hq) hem))
  have HK1 := hid (f1.del (q := find n S key) hq)
  have HK2 := hid (g1.del hq hs0 I.uniq)
  have HKS : Hid (∀ i k u, upd S (find n S key) none i = some (k, u) → k < 18446744073709551616) := fun i k u hi => by
    unfold upd at hi; split at hi
    · simp at hi
    · exact hks i k u hi
  have K1 := lwf64 (n := find n S key) (by omega)
  have K2 := lwfu hkey
  have HT := hid h
  have hnx := nx_lt hq
  have hmod : Hid ((((find n S key : Nat) : Int) + 1) % (n : Int) = ((nx n (find n S key) : Nat) : Int)) := by rw [← nx_mod hq]; exact hid rfl
  have hcm : c + 1 < maxLen := by unfold maxLen; omega
  generalize dropAt n S (find n S key) = FF at *
  generalize upd S (find n S key) none = S0 at *
  generalize nx n (find n S key) = k0 at *
  generalize find n S key = q at *
  clear h f1 f2 g1 g2 hfp hfk hs0 hne hks I hemp
  go_enter Try.func9, Try.ntmps9
  go_wp2_with (first
    | (at_lookup; refine wpList_F_look_some _ rfl _ _ _ rfl typedP pb (c + 1) f' rfl G2.out _ rfl K2 _ FP.out ?_)
    | (at_delete; refine wpList_F_delete_there _ rfl _ _ _ rfl typedP pb c f' rfl G2.out _ rfl K2 _ FP.out ?_; intro w1 m1 gr1; have d0 : w1.cell? ⟨tb, 0, none⟩ = some (.int .i64 n) := (World.cell?_of_block (gr1.block tb hl1 (by simp; exact ne2))).trans c0; have d2 : w1.cell? ⟨tb, 2, none⟩ = some (.map (some kb)) := (World.cell?_of_block (gr1.block tb hl1 (by simp; exact ne2))).trans c2; have hl2 : tb < w1.heap.size := cell_lt d0; have M1 := hid m1; have GR1 := hid gr1; have G3 := hid (MapF.kept F2.out gr1 (by simp; exact ne3)); clear m1 gr1)
    | (at_delete; refine wpList_F_delete_there _ rfl _ _ _ rfl typedK kb c f rfl G3.out _ rfl K1 _ FK.out ?_; intro w2 m2 gr2; have b0 : w2.cell? ⟨tb, 0, none⟩ = some (.int .i64 n) := (World.cell?_of_block (gr2.block tb hl2 (by simp; exact ne1))).trans d0; have M2 := hid m2; have GR2 := hid gr2; clear m2 gr2))
  have hfr2 : Frm [kb, pb] w w2 := ((frm_of_grown GR1.out).mono (by simp)).trans ((frm_of_grown GR2.out).mono (by simp))
  have D0 : Hid (DropAt w w2 tb kb pb n e em c FF S0 n q k0) := by
    have cb : ∀ o, w2.cell? ⟨tb, o, none⟩ = w.cell? ⟨tb, o, none⟩ := fun o => World.cell?_of_block (hfr2.block tb hl1 (by simp; exact ⟨ne1, ne2⟩))
    exact ⟨HD.out, HDl.out, HF.out, ⟨(cb 0).trans HT.out.c0, (cb 1).trans HT.out.c1, (cb 2).trans HT.out.c2, (cb 3).trans HT.out.c3, HT.out.ne, ⟨_, HK1.out, M2.out⟩, ⟨_, HK2.out, M1.out.kept GR2.out (by simp; exact fun e => ne3 e.symm)⟩⟩, HKS.out, hfr2⟩
  clear hfr2 b0 c0 c2 c3 GR1 GR2 M1 M2 G3 F2 G2 FP FK HF HD HDl HK1 HK2 HKS HT d0 d2
  go_loopg [4, 5] n (fun gg s4 s5 wr => ∃ (i k : Nat) (S1 : Tb Value), s4 = .int .i64 i ∧ s5 = .int .i64 k ∧ Hid (DropAt w wr tb kb pb n e em c FF S1 gg i k))
  case atStart => exact ⟨q, k0, S0, rfl, by rw [hmod.out], D0⟩
  case round =>
    clear D0 hmod K1 K2 hnx hq hkey hcm
    obtain ⟨i, k, S1, rfl, rfl, HD⟩ := hrel
    obtain ⟨fK, fk1, fk2⟩ := HD.out.T.k
    obtain ⟨fP, fp1, fp2⟩ := HD.out.T.p
    have c0 := HD.out.T.c0
    have c2 := HD.out.T.c2
    have c3 := HD.out.T.c3
    have hl2 := HD.out.T.lt.1
    have hi := HD.out.D.li
    have hk := HD.out.D.lk
    have KI := lwf64 (n := i) (by omega)
    have KK := lwf64 (n := k) (by omega)
    have FK1 := hid fk1
    have FK2 := hid fk2
    have FP1 := hid fp1
    have FP2 := hid fp2
    clear fk1 fk2 fp1 fp2
    cases hS : S1 k with
    | none =>
      have FA := hid (FK1.out.none hS)
      have HG : Hid (S1 = FF) := by have h1 := HD.out.go; cases gk <;> simp [dropGo, hS] at h1 <;> exact h1
      clear hS
      go_wp2_with (at_lookup; refine wpList_F_look_ok_none _ rfl _ _ _ rfl typedK kb c fK rfl FK2.out _ rfl KK FA.out ?_)
      refine bodyPost_ret (results_none rfl _ _ _) rfl ?_
      exact ⟨rfl, HD.out.fr, by rw [← HG.out]; exact HD.out.T⟩
    | some yu =>
      obtain ⟨y, u⟩ := yu
      have FA := hid (FK1.out.some hk hS)
      have hy := HD.out.ks k y u hS
      have KY := lwfu hy
      have HH := hid (fun (wx : World) (hx : wx.cell? ⟨tb, 1, none⟩ = some (.int .i64 e)) => home_c (n := n) hx g y)
      have c1 := HD.out.T.c1
      have HC1 := hid c1
      have hh := home_lt g.pos y
      have B1 : -9223372036854775808 ≤ (k : Int) - (home n y : Nat) ∧ (k : Int) - (home n y : Nat) ≤ 9223372036854775807 := by omega
      have B2 : -9223372036854775808 ≤ (k : Int) - (home n y : Nat) + n ∧ (k : Int) - (home n y : Nat) + n ≤ 9223372036854775807 := by omega
      have B3 : -9223372036854775808 ≤ (k : Int) - (i : Nat) ∧ (k : Int) - (i : Nat) ≤ 9223372036854775807 := by omega
      have B4 : -9223372036854775808 ≤ (k : Int) - (i : Nat) + n ∧ (k : Int) - (i : Nat) + n ≤ 9223372036854775807 := by omega
      have HE := hid (And.intro (IntWalk.i64_in _ B1) (And.intro (IntWalk.i64_in _ B2) (And.intro (mod_dist hh hk) (And.intro (IntWalk.i64_in _ B3) (And.intro (IntWalk.i64_in _ B4) (mod_dist hi hk))))))
      have hn0 : ((n : Int) == 0) = false := by simp; omega
      have HS := hid hS
      clear hS B1 B2 B3 B4
      generalize hhm : home n y = hm at HH HE hh
      have HHM := hid hhm
      clear hhm
      go_wp2_with (at_lookup; refine wpList_F_look_ok_some _ rfl _ _ _ rfl typedK kb c fK rfl FK2.out _ rfl KK _ FA.out ?_)
      obtain ⟨E1, E2, E3, E4, E5, E6⟩ := HE.out
      go_quiet ((go_at_call 16; exact quietS (HH.out _ HC1.out)))
      clear E1 E2 E3 E4 E5 E6
      obtain ⟨wz, hwz⟩ : ∃ wz, wz = wr.drewN nq := ⟨_, rfl⟩
      rw [← hwz]
      have HZ : Hid (∀ j : Nat, wz.heap[j]? = wr.heap[j]?) := by rw [hwz]; exact fun j => rfl
      have HBZ : Hid (Frm [] wr wz) := by rw [hwz]; exact (Frm.refl _ _).drewN _
      have z0 : wz.cell? ⟨tb, 0, none⟩ = some (.int .i64 n) := (World.cell?_of_block (HZ.out tb)).trans c0
      have z2 : wz.cell? ⟨tb, 2, none⟩ = some (.map (some kb)) := (World.cell?_of_block (HZ.out tb)).trans c2
      have z3 : wz.cell? ⟨tb, 3, none⟩ = some (.map (some pb)) := (World.cell?_of_block (HZ.out tb)).trans c3
      have zl : tb < wz.heap.size := cell_lt z0
      have KZ := hid (MapF.of_block FK2.out (HZ.out kb))
      have PZ := hid (MapF.of_block FP2.out (HZ.out pb))
      clear hwz c0 c2 c3 c1 FK2 FP2
      have hke : k ≠ em := fun e' => by have h1 := HS.out; have h2 := HD.out.D.emp; rw [e', h2] at h1; simp at h1
      have hgk : ∃ m, gk = m + 1 := by
        have h1 := HD.out.d
        have h2 := dist_pos hk hem hke
        exact ⟨gk - 1, by omega⟩
      obtain ⟨m, rfl⟩ := hgk
      have hnk := nx_lt hk
      have HD2 : Hid (dist n (nx n k) em ≤ m) := by have h1 := HD.out.d; rw [dist_nx hk hem hke] at h1; exact hid (by omega)
      have hmod : Hid (((k : Int) + 1) % (n : Int) = ((nx n k : Nat) : Int)) := by rw [← nx_mod hk]; exact hid rfl
      have HCO : Hid (dist n (home n y) k = dist n hm k) := by rw [HHM.out]; exact hid rfl
      have HUN := hid HD.out.D.uniq
      by_cases hco : dist n i k ≤ dist n hm k
      · have hco' : dist n i k ≤ dist n (home n y) k := by rw [HCO.out]; exact hco
        have HGO : Hid (dropGo n m (upd (upd S1 i (S1 k)) k none) k (nx n k) = FF) := by
          have h1 := HD.out.go
          unfold dropGo at h1
          rw [HS.out] at h1
          simp only [hco', if_true] at h1
          rw [HS.out]; exact h1
        have HDM := hid (Dst.move HD.out.D HS.out hco')
        have FI := hid (FK1.out.none HD.out.D.hole)
        have hik := HD.out.D.ik
        have FPY : Hid (fP y = some (k : Int)) := (FP1.out y k).2 ⟨k, rfl, hk, u, HS.out⟩
        have FKK : Hid (fput fK i y k = some (y : Int)) := by unfold fput; rw [if_neg (by omega)]; exact FA
        have C1 : c < maxLen := by unfold maxLen; omega
        clear hco'
        generalize nx n k = k' at hnk HD2 hmod HGO HDM
        generalize dist n i k = di at hco ⊢
        generalize dist n hm k = dh at hco ⊢
        go_wp2_with (first
          | (at_mapUpdate; refine wpList_F_store_new _ rfl _ _ _ _ rfl typedK kb c fK rfl KZ.out C1 _ _ rfl rfl KI KY FI.out ?_; intro w1 m1 gr1; have y3 : w1.cell? ⟨tb, 3, none⟩ = some (.map (some pb)) := (World.cell?_of_block (gr1.block tb zl (by simp; exact ne1))).trans z3; have y2 : w1.cell? ⟨tb, 2, none⟩ = some (.map (some kb)) := (World.cell?_of_block (gr1.block tb zl (by simp; exact ne1))).trans z2; have y0 : w1.cell? ⟨tb, 0, none⟩ = some (.int .i64 n) := (World.cell?_of_block (gr1.block tb zl (by simp; exact ne1))).trans z0; have yl : tb < w1.heap.size := cell_lt y0; have M1 := hid m1; have GR1 := hid gr1; have P1 := hid (MapF.kept PZ.out gr1 (by simp; exact fun e => ne3 e.symm)); clear m1 gr1)
          | (at_mapUpdate; refine wpList_F_store_old _ rfl _ _ _ _ rfl typedP pb c fP rfl P1.out C1 _ _ rfl rfl KY KI _ FPY.out ?_; intro w2 m2 gr2; have x2 : w2.cell? ⟨tb, 2, none⟩ = some (.map (some kb)) := (World.cell?_of_block (gr2.block tb yl (by simp; exact ne2))).trans y2; have x0 : w2.cell? ⟨tb, 0, none⟩ = some (.int .i64 n) := (World.cell?_of_block (gr2.block tb yl (by simp; exact ne2))).trans y0; have xl : tb < w2.heap.size := cell_lt x0; have M2 := hid m2; have GR2 := hid gr2; have K2 := hid (MapF.kept M1.out gr2 (by simp; exact ne3)); clear m2 gr2)
          | (at_delete; refine wpList_F_delete_there _ rfl _ _ _ rfl typedK kb c (fput fK i y) rfl K2.out _ rfl KK _ FKK.out ?_; intro w3 m3 gr3; have v0 : w3.cell? ⟨tb, 0, none⟩ = some (.int .i64 n) := (World.cell?_of_block (gr3.block tb xl (by simp; exact ne1))).trans x0; have M3 := hid m3; have GR3 := hid gr3; clear m3 gr3))
        go_roundg m
        case measure => omega
        case rel =>
          have hfr : Frm [kb, pb] wr w3 := (HBZ.out.mono (by simp)).trans ((((frm_of_grown GR1.out).mono (by simp)).trans ((frm_of_grown GR2.out).mono (by simp))).trans ((frm_of_grown GR3.out).mono (by simp)))
          have cb : ∀ o, w3.cell? ⟨tb, o, none⟩ = wr.cell? ⟨tb, o, none⟩ := fun o => World.cell?_of_block (hfr.block tb hl2 (by simp; exact ⟨ne1, ne2⟩))
          refine ⟨k, k', upd (upd S1 i (S1 k)) k none, rfl, by rw [hmod.out], HDM.out, HD2.out, HGO.out, ⟨(cb 0).trans HD.out.T.c0, (cb 1).trans HD.out.T.c1, (cb 2).trans HD.out.T.c2, (cb 3).trans HD.out.T.c3, HD.out.T.ne, ⟨_, ?_, M3.out⟩, ⟨_, FP1.out.move hi hk hik HD.out.D.hole HS.out HUN.out, M2.out.kept GR3.out (by simp; exact fun e => ne3 e.symm)⟩⟩, ?_, HD.out.fr.trans hfr⟩
          · rw [HS.out]; exact (FK1.out.put hi).del hk
          · intro a b' u' h'
            unfold upd at h'
            split at h'
            · simp at h'
            · split at h'
              · exact HD.out.ks _ _ _ h'
              · exact HD.out.ks _ _ _ h'
      · have hco' : ¬ dist n i k ≤ dist n (home n y) k := by rw [HCO.out]; exact hco
        have HGO : Hid (dropGo n m S1 i (nx n k) = FF) := by
          have h1 := HD.out.go
          unfold dropGo at h1
          rw [HS.out] at h1
          simp only [hco', if_false] at h1
          exact h1
        have HDM := hid (Dst.stay HD.out.D HS.out hco')
        clear hco'
        generalize nx n k = k' at hnk HD2 hmod HGO HDM
        generalize dist n i k = di at hco ⊢
        generalize dist n hm k = dh at hco ⊢
        go_wp2
        go_roundg m
        case measure => omega
        case rel => exact ⟨i, k', S1, rfl, by rw [hmod.out], HDM.out, HD2.out, HGO.out, HD.out.T.frm HBZ.out (by simp) (by simp) (by simp), HD.out.ks, HD.out.fr.trans (HBZ.out.mono (by simp))⟩
end Go.Proofs.Ytanfkiddmknpnaa.Wide
