/- IndexKeeps: whatever is done, each key has what was put last and not dropped since; no empty place between a key's home and its place; values of a type of several words. No condition. -/
import Derived.Test.YtcieieljgmkjmaaRows
import Derived.WalkKit
import Derived.ProofKit
import Derived.OpenShut
import Derived.ShutString
import Derived.ChangeOld
import Derived.Below
import Derived.BigQuiet
import Derived.Deep.CutBlock
import Derived.Deep.DeepCutAuto
import Derived.Outline
import Derived.OwnWalk
import Derived.Test.YtcieieljgmkjmaaLawA
import Derived.Test.YtcieieljgmkjmaaKeepB
import Derived.Test.YtcieieljgmkjmaaKeepD
namespace Go.Proofs.Ytcieieljgmkjmaa.indexKeeps
open Go.ChangeShapes Go.WideShapes Go.ChangeAt Go.RowKit Winnow
open Go.ChangeMaps (open_string shut_string)
open Keep
set_option linter.unusedVariables false

theorem own : ownKnob Try.prog.godebug = none := by kernel_rfl
theorem laidOut : laidOutB Try.prog = true := by kernel_rfl

theorem lwfu {n : Nat} (h : n < 18446744073709551616) : lwf .u64 (n : Int) := by unfold lwf; exact WalkArith.wf_u64 (by omega)

set_option maxRecDepth 100000 in
set_option maxHeartbeats 2000000 in
theorem walkSmall (most : Nat) (a1 : Option Addr) (len1 cap1 : Nat) (w : World) (hn : most ≤ 4096) (w1 : StepsW w a1 len1) :
    Calls Try.prog 6 #[.int .i64 most, .slice a1 len1 cap1] w fun e w' => e = .returned (.bool true) ∧ Below w.heap.size w w' := by
  have HK := hid (LawA.known_c w)
  have HN := hid (fun wx => IdxJ.new_c most wx (by omega))
  have HMK := hid (@run_makeMap Try.prog)
  have R1 := hid w1.2
  have hl1 : len1 ≤ 9223372036854775807 := by have := w1.1; unfold maxLen at this; omega
  clear w1
  go_enter Try.func6, Try.ntmps6
  go_wp2_with (first | (go_at_call 14; refine HK.out.mono ?_; rintro e w1 ⟨rfl, fr0⟩) | (go_at_call 17; refine (HN.out _).mono ?_; rintro e w2 ⟨rfl, n, ee, F, I, fr, hsz⟩; have hmm := HMK.out))
  clear hmm HMK HK HN
  obtain ⟨w3, hw3⟩ : ∃ w3, w3 = w2.alloc (.map #[] 0) := ⟨_, rfl⟩
  rw [← hw3]
  have hz := fr0.size
  have K0 : Hid (Keep w w3 (w1.heap.size + 1) w1.heap.size (w1.heap.size + 2) n most ee 0 (fun _ => none) (fun _ => none)) := by
    have hB : Below w2.heap.size w2 w3 := by rw [hw3]; exact (Below.refl _ _).alloc (Nat.le_refl _) _
    have hm := MapF.made (P := Try.prog) (k := 30) (e := 3) (qk := .u64) (qe := .i64) w2
    rw [← hw3, hsz] at hm
    exact ⟨⟨Inv.empty _, cnt_none _, Nat.zero_le _, F, fun i k u h => by simp at h⟩, I.of_blocks (hB.block _ I.lb) (hB.block _ I.ls), hm, fun p k u h => by simp at h, fun p k u _ h => by simp at h, fun k _ => rfl, by omega, ((fr0.trans fr).below (Nat.le_refl _) (by simp)).trans (hB.mono (by omega)), by omega⟩
  have hbb : some (w1.heap.size + 2) = some w2.heap.size := by rw [hsz]
  clear hw3 F I fr fr0 hz
  generalize hs : w1.heap.size = s at *
  generalize hb : s + 1 = b at *
  generalize hbq : s + 2 = bb at *
  have hsz' := hid hsz
  clear hs hb hbq hbb
  go_loopg [8] len1 (fun f s8 wr => ∃ (i c : Nat) (S : Tb Value) (f' : Int → Option Int), s8 = .int .i64 i ∧ i + f = len1 ∧ Hid (Keep w wr b s bb n most ee c S f'))
  case atStart => exact ⟨0, 0, _, _, rfl, by omega, K0⟩
  case round =>
    clear K0
    obtain ⟨i, c, S, f, rfl, hif, H⟩ := hrel
    by_cases hlt : i < len1 ∧ i < 3000
    · obtain ⟨hlt, h30⟩ := hlt
      obtain ⟨bx, off, rfl, kind, N, key, hN, hkey, d0, d1, d2⟩ := R1.out i hlt
      have hold : ∀ {o : Nat} {v : Value}, w.cell? ⟨bx, o, none⟩ = some v → wr.cell? ⟨bx, o, none⟩ = some v := fun h => (World.cell?_of_block (H.out.bel.block bx (cell_lt h))).trans h
      have e0 := hold d0
      have e1 := hold d1
      have e2 := hold d2
      have KK := lwfu hkey
      clear d0 d1 d2 hold
      have HS : Hid (∀ o, Keep w (wr.alloc o) b s bb n most ee c S f) := hid (fun o => H.out.later ((Below.refl _ _).alloc (Nat.le_refl _) _))
      by_cases ht : S (find n S key) = none
      · have HTN := hid ht
        have HFK := hid (H.out.uniqk ht)
        clear ht
        by_cases k1 : kind = 1
        · subst k1
          go_wp2_with (at_lookup; refine wpList_F_look_ok_none _ rfl _ _ _ rfl typedB bb c f rfl (HS.out _).M _ rfl KK HFK.out ?_)
          obtain ⟨w4, hw4⟩ : ∃ w4, w4 = ((wr.alloc (.cells #[.int .i64 1, .int .i64 N, .int .u64 key] 46)).alloc (.cells #[.int .i64 N, .int .i64 i] 3)) := ⟨_, rfl⟩
          rw [← hw4]
          have H4 : Hid (Keep w w4 b s bb n most ee c S f) := by rw [hw4]; exact hid ((HS.out _).later ((Below.refl _ _).alloc (Nat.le_refl _) _))
          have hgc : w4.cell? ⟨wr.heap.size + 1, 0, none⟩ = some (.int .i64 N) := by
            have h0 := alloc_at (wr.alloc (.cells #[.int .i64 1, .int .i64 N, .int .u64 key] 46)) (.cells #[.int .i64 N, .int .i64 i] 3)
            rw [alloc_size] at h0
            rw [hw4, cell_of_block h0]; rfl
          have hst2 : ∀ o : Nat, w4.cell? ⟨wr.heap.size, o, none⟩ = (#[.int .i64 1, .int .i64 N, .int .u64 key] : Array Value)[o]? := by
            intro o
            have h0 := alloc_at wr (.cells #[.int .i64 1, .int .i64 N, .int .u64 key] 46)
            have h1 : w4.heap[wr.heap.size]? = some (.cells #[.int .i64 1, .int .i64 N, .int .u64 key] 46 (0, 0)) := by rw [hw4, Below.heap_alloc _ _ _ (by simp)]; exact h0
            exact cell_of_block h1 o
          have hgn : (wr.heap.size + 1 ≠ b ∧ wr.heap.size + 1 ≠ s ∧ wr.heap.size + 1 ≠ bb) ∧ wr.heap.size ≠ b ∧ wr.heap.size ≠ s ∧ wr.heap.size ≠ bb := by have := H.out.I.lb; have := H.out.I.ls; have := H.out.M.lt; omega
          have hstl : wr.heap.size < w4.heap.size := by rw [hw4]; simp; omega
          clear hw4
          generalize wr.heap.size + 1 = g at hgc hgn ⊢
          generalize wr.heap.size = stp at hst2 hgn hstl ⊢
          by_cases hc : c = most
          · have HC := hid hc
            have hcb : ((c : Int) == (most : Int)) = true := by simp [hc]
            have HP := hid (put_full H4.out HC.out HTN.out g)
            clear hc
            refine HP.out.mono ?_
            rintro r w5 ⟨rfl, m5, hm5⟩
            have H5 : Hid (Keep w w5 b s bb n most ee c S f) := by rw [hm5]; exact hid (H4.out.drewN _)
            have hlen : (Builtin.len_ #[44] 3 #[.map (some bb)]).run Try.prog w5 = .ok (.int .i64 (c : Nat)) w5 := MapF.len typedB H5.out.M _
            clear hm5 HP H4 hst2 hgc H HS
            have HLn := hid (IdxJ.len_c H5.out.I)
            have hlz : (Builtin.len_ #[44] 3 #[.map (some bb)]).run Try.prog w5 = .ok (.int .i64 (c : Nat)) w5 := MapF.len typedB H5.out.M _
            go_wp2_with (go_at_call 21; refine HLn.out.mono ?_; rintro r w' ⟨rfl, rfl⟩)
            go_roundg (gk - 1)
            case measure => omega
            case rel => exact ⟨i + 1, c, S, f, by go_num, by omega, H5⟩
          · have hc' : c < most := by have := H4.out.T.le; omega
            have hcb : ((c : Int) == (most : Int)) = false := by simp; omega
            clear hc
            obtain ⟨hp0, hT0⟩ := put_new H4.out hc' HTN.out g
            have HP := hid hp0
            have HT' := hid hT0
            have C1 : c < maxLen := by have := H4.out.T.lt; have := H4.out.T.fit.geo.small; unfold maxLen; omega
            clear hp0 hT0
            refine HP.out.mono ?_
            rintro r w5 ⟨rfl, f5, i5⟩
            have M5 := hid (H4.out.M.of_block (f5.block bb H4.out.M.lt (by have := H4.out.ap; simp; exact this)))
            have q1 : w5.cell? ⟨stp, 1, none⟩ = some (.int .i64 N) := (World.cell?_of_block (f5.block stp hstl (by simp; omega))).trans (hst2 1)
            have q2 : w5.cell? ⟨stp, 2, none⟩ = some (.int .u64 key) := (World.cell?_of_block (f5.block stp hstl (by simp; omega))).trans (hst2 2)
            have hlen : (Builtin.len_ #[44] 3 #[.map (some bb)]).run Try.prog w5 = .ok (.int .i64 (c : Nat)) w5 := MapF.len typedB M5.out _
            have F5 := hid f5
            have I5 := hid i5
            clear f5 i5
            go_wp2_with (at_mapUpdate; refine wpList_F_store_new _ rfl _ _ _ _ rfl typedB bb c f rfl M5.out C1 _ _ rfl rfl KK hN HFK.out ?_; intro w6 m6 gr6; have M6 := hid m6; have GR6 := hid gr6; clear m6 gr6)
            have H6 := hid (put_fin H4.out hkey (c + 1) hgc hgn.1 HT'.out F5.out I5.out (frm_of_grown GR6.out) M6.out)
            clear hlen q1 q2 HP HT' M5 F5 I5 M6 GR6 H4 hst2 hgc H HS
            generalize putAt n S key (rowV g) = S' at *
            have HLn := hid (IdxJ.len_c H6.out.I)
            have hlz : (Builtin.len_ #[44] 3 #[.map (some bb)]).run Try.prog w6 = .ok (.int .i64 (c + 1 : Nat)) w6 := MapF.len typedB H6.out.M _
            go_wp2_with (go_at_call 21; refine HLn.out.mono ?_; rintro r w' ⟨rfl, rfl⟩)
            go_roundg (gk - 1)
            case measure => omega
            case rel => exact ⟨i + 1, c + 1, S', fput f key N, by go_num, by omega, H6⟩
        · by_cases k3 : kind = 3
          · subst k3
            clear k1
            go_wp2_with (at_lookup; refine wpList_F_look_ok_none _ rfl _ _ _ rfl typedB bb c f rfl (HS.out _).M _ rfl KK HFK.out ?_)
            obtain ⟨w4, hw4⟩ : ∃ w4, w4 = (wr.alloc (.cells #[.int .i64 3, .int .i64 N, .int .u64 key] 46)) := ⟨_, rfl⟩
            rw [← hw4]
            have H4 : Hid (Keep w w4 b s bb n most ee c S f) := by rw [hw4]; exact hid (HS.out _)
            have hst2 : ∀ o : Nat, w4.cell? ⟨wr.heap.size, o, none⟩ = (#[.int .i64 3, .int .i64 N, .int .u64 key] : Array Value)[o]? := by
              intro o
              have h0 := alloc_at wr (.cells #[.int .i64 3, .int .i64 N, .int .u64 key] 46)
              rw [hw4]
              exact cell_of_block h0 o
            have hgn : wr.heap.size ≠ b ∧ wr.heap.size ≠ s ∧ wr.heap.size ≠ bb := by have := H.out.I.lb; have := H.out.I.ls; have := H.out.M.lt; omega
            have hstl : wr.heap.size < w4.heap.size := by rw [hw4]; simp
            clear hw4
            generalize wr.heap.size = stp at hst2 hgn hstl ⊢
            have HP := hid (drop_no H4.out key HTN.out)
            refine HP.out.mono ?_
            rintro r w5 ⟨rfl, m5, hm5⟩
            have f5 : Frm [b, s] w4 w5 := by rw [hm5]; exact (Frm.refl _ _).drewN _
            have H5 : Hid (Keep w w5 b s bb n most ee c S f) := by rw [hm5]; exact hid (H4.out.drewN _)
            clear hm5
            have M5 : Hid (MapB w5 bb f (c)) := hid (H4.out.M.of_block (f5.block bb H4.out.M.lt (by have := H4.out.ap; simp; exact this)))
            have q1 : w5.cell? ⟨stp, 1, none⟩ = some (.int .i64 N) := (World.cell?_of_block (f5.block stp hstl (by simp; omega))).trans (hst2 1)
            have q2 : w5.cell? ⟨stp, 2, none⟩ = some (.int .u64 key) := (World.cell?_of_block (f5.block stp hstl (by simp; omega))).trans (hst2 2)
            have F5 := hid f5
            clear f5
            go_wp2_with fail
            go_quiet (fail)
            obtain ⟨w5', hw5'⟩ : ∃ w5', w5' = w5.drewN nq := ⟨_, rfl⟩
            rw [← hw5']
            have r2 : w5'.cell? ⟨stp, 2, none⟩ = some (.int .u64 key) := by rw [hw5']; exact q2
            have M5' : Hid (MapB w5' bb f (c)) := by rw [hw5']; exact hid (MapF.of_block M5.out rfl)
            have H5' : Hid (Keep w w5' b s bb n most ee c S f) := by rw [hw5']; exact hid (H5.out.drewN _)
            clear hw5' q1 q2
            go_wp2_with (at_delete; refine wpList_F_delete_none _ rfl _ _ _ rfl typedB bb c f rfl M5'.out _ rfl KK HFK.out ?_; intro w6 m6 gr6; have M6 := hid m6; have GR6 := hid gr6; clear m6 gr6)
            have H6 := hid (del_none H5'.out HFK.out (frm_of_grown GR6.out) M6.out)
            clear HP M5 M5' F5 M6 GR6 H4 H5 H5' hst2 H HS r2
            have HLn := hid (IdxJ.len_c H6.out.I)
            have hlz : (Builtin.len_ #[44] 3 #[.map (some bb)]).run Try.prog w6 = .ok (.int .i64 (c : Nat)) w6 := MapF.len typedB H6.out.M _
            go_wp2_with (go_at_call 21; refine HLn.out.mono ?_; rintro r w' ⟨rfl, rfl⟩)
            go_roundg (gk - 1)
            case measure => omega
            case rel => exact ⟨i + 1, c, S, fdel f key, by go_num, by omega, H6⟩
          · by_cases k2 : kind = 2
            · subst k2
              clear k1 k3
              go_wp2_with (at_lookup; refine wpList_F_look_ok_none _ rfl _ _ _ rfl typedB bb c f rfl (HS.out _).M _ rfl KK HFK.out ?_)
              obtain ⟨w4, hw4⟩ : ∃ w4, w4 = (wr.alloc (.cells #[.int .i64 2, .int .i64 N, .int .u64 key] 46)) := ⟨_, rfl⟩
              rw [← hw4]
              have H4 : Hid (Keep w w4 b s bb n most ee c S f) := by rw [hw4]; exact hid (HS.out _)
              have hst2 : ∀ o : Nat, w4.cell? ⟨wr.heap.size, o, none⟩ = (#[.int .i64 2, .int .i64 N, .int .u64 key] : Array Value)[o]? := by
                intro o
                have h0 := alloc_at wr (.cells #[.int .i64 2, .int .i64 N, .int .u64 key] 46)
                rw [hw4]
                exact cell_of_block h0 o
              have hgn : wr.heap.size ≠ b ∧ wr.heap.size ≠ s ∧ wr.heap.size ≠ bb := by have := H.out.I.lb; have := H.out.I.ls; have := H.out.M.lt; omega
              have hstl : wr.heap.size < w4.heap.size := by rw [hw4]; simp
              clear hw4
              generalize wr.heap.size = stp at hst2 hgn hstl ⊢
              have HP := hid (get_one H4.out key)
              rw [show conc nilS S (find n S key) = (false, 0, nilS) from by unfold conc; rw [HTN.out]] at HP
              refine HP.out.mono ?_
              rintro r w5 ⟨rfl, m5, hm5⟩
              have f5 : Frm [b, s] w4 w5 := by rw [hm5]; exact (Frm.refl _ _).drewN _
              have H5 : Hid (Keep w w5 b s bb n most ee c S f) := by rw [hm5]; exact hid (H4.out.drewN _)
              clear hm5
              have M5 : Hid (MapB w5 bb f (c)) := hid (H4.out.M.of_block (f5.block bb H4.out.M.lt (by have := H4.out.ap; simp; exact this)))
              have q1 : w5.cell? ⟨stp, 1, none⟩ = some (.int .i64 N) := (World.cell?_of_block (f5.block stp hstl (by simp; omega))).trans (hst2 1)
              have q2 : w5.cell? ⟨stp, 2, none⟩ = some (.int .u64 key) := (World.cell?_of_block (f5.block stp hstl (by simp; omega))).trans (hst2 2)
              have F5 := hid f5
              clear f5
              go_wp2_with fail
              go_quiet (fail)
              obtain ⟨w6, hw6⟩ : ∃ w6, w6 = w5.drewN nq := ⟨_, rfl⟩
              rw [← hw6]
              have H6 : Hid (Keep w w6 b s bb n most ee c S f) := by rw [hw6]; exact hid (H5.out.drewN _)
              clear hw6 q1 q2 HP M5 F5 H4 H5 hst2 H HS 
              have HLn := hid (IdxJ.len_c H6.out.I)
              have hlz : (Builtin.len_ #[44] 3 #[.map (some bb)]).run Try.prog w6 = .ok (.int .i64 (c : Nat)) w6 := MapF.len typedB H6.out.M _
              go_wp2_with (go_at_call 21; refine HLn.out.mono ?_; rintro r w' ⟨rfl, rfl⟩)
              go_roundg (gk - 1)
              case measure => omega
              case rel => exact ⟨i + 1, c, S, f, by go_num, by omega, H6⟩
            · have b1 : ((kind : Int) == 1) = false := by simp [k1]
              have b2 : ((kind : Int) == 2) = false := by simp [k2]
              have b3 : ((kind : Int) == 3) = false := by simp [k3]
              clear k1 k2 k3
              go_wp2_with (at_lookup; refine wpList_F_look_ok_none _ rfl _ _ _ rfl typedB bb c f rfl (HS.out _).M _ rfl KK HFK.out ?_)
              obtain ⟨w4, hw4⟩ : ∃ w4, w4 = (wr.alloc (.cells #[.int .i64 kind, .int .i64 N, .int .u64 key] 46)) := ⟨_, rfl⟩
              rw [← hw4]
              have H6 : Hid (Keep w w4 b s bb n most ee c S f) := by rw [hw4]; exact hid (HS.out _)
              clear hw4 H HS
              have HLn := hid (IdxJ.len_c H6.out.I)
              have hlz : (Builtin.len_ #[44] 3 #[.map (some bb)]).run Try.prog w4 = .ok (.int .i64 (c : Nat)) w4 := MapF.len typedB H6.out.M _
              go_wp2_with (go_at_call 21; refine HLn.out.mono ?_; rintro r w' ⟨rfl, rfl⟩)
              go_roundg (gk - 1)
              case measure => omega
              case rel => exact ⟨i + 1, c, S, f, by go_num, by omega, H6⟩
      · obtain ⟨g0, N0, hs0, hf0, hgc0, hg0⟩ := H.out.find_some ht
        have HTN := hid hs0
        have HFK := hid hf0
        have HTN' : S (find n S key) ≠ none := ht
        have HG := hid (And.intro hgc0 hg0)
        have hgw : ∀ wx, Keep w wx b s bb n most ee c S f → wx.cell? ⟨g0, 0, none⟩ = some (.int .i64 N0) := fun wx hx => by
          obtain ⟨g1, N1, h1, h2, h3, _⟩ := hx.find_some ht
          rw [hs0] at h1
          rw [hf0] at h2
          simp at h1 h2
          rw [h1, h2]; exact h3
        have HGW := hid hgw
        clear ht hs0 hf0 hgc0 hg0 hgw
        by_cases k1 : kind = 1
        · subst k1
          go_wp2_with (at_lookup; refine wpList_F_look_ok_some _ rfl _ _ _ rfl typedB bb c f rfl (HS.out _).M _ rfl KK _ HFK.out ?_)
          obtain ⟨w4, hw4⟩ : ∃ w4, w4 = ((wr.alloc (.cells #[.int .i64 1, .int .i64 N, .int .u64 key] 46)).alloc (.cells #[.int .i64 N, .int .i64 i] 3)) := ⟨_, rfl⟩
          rw [← hw4]
          have H4 : Hid (Keep w w4 b s bb n most ee c S f) := by rw [hw4]; exact hid ((HS.out _).later ((Below.refl _ _).alloc (Nat.le_refl _) _))
          have hgc : w4.cell? ⟨wr.heap.size + 1, 0, none⟩ = some (.int .i64 N) := by
            have h0 := alloc_at (wr.alloc (.cells #[.int .i64 1, .int .i64 N, .int .u64 key] 46)) (.cells #[.int .i64 N, .int .i64 i] 3)
            rw [alloc_size] at h0
            rw [hw4, cell_of_block h0]; rfl
          have hst2 : ∀ o : Nat, w4.cell? ⟨wr.heap.size, o, none⟩ = (#[.int .i64 1, .int .i64 N, .int .u64 key] : Array Value)[o]? := by
            intro o
            have h0 := alloc_at wr (.cells #[.int .i64 1, .int .i64 N, .int .u64 key] 46)
            have h1 : w4.heap[wr.heap.size]? = some (.cells #[.int .i64 1, .int .i64 N, .int .u64 key] 46 (0, 0)) := by rw [hw4, Below.heap_alloc _ _ _ (by simp)]; exact h0
            exact cell_of_block h1 o
          have hgn : (wr.heap.size + 1 ≠ b ∧ wr.heap.size + 1 ≠ s ∧ wr.heap.size + 1 ≠ bb) ∧ wr.heap.size ≠ b ∧ wr.heap.size ≠ s ∧ wr.heap.size ≠ bb := by have := H.out.I.lb; have := H.out.I.ls; have := H.out.M.lt; omega
          have hstl : wr.heap.size < w4.heap.size := by rw [hw4]; simp; omega
          clear hw4
          generalize wr.heap.size + 1 = g at hgc hgn ⊢
          generalize wr.heap.size = stp at hst2 hgn hstl ⊢
          obtain ⟨hp0, hT0⟩ := put_old H4.out HTN' g
          have HP := hid hp0
          have HT' := hid hT0
          have C1 : c < maxLen := by have := H4.out.T.lt; have := H4.out.T.fit.geo.small; unfold maxLen; omega
          clear hp0 hT0
          refine HP.out.mono ?_
          rintro r w5 ⟨rfl, f5, i5⟩
          have M5 := hid (H4.out.M.of_block (f5.block bb H4.out.M.lt (by have := H4.out.ap; simp; exact this)))
          have q1 : w5.cell? ⟨stp, 1, none⟩ = some (.int .i64 N) := (World.cell?_of_block (f5.block stp hstl (by simp; omega))).trans (hst2 1)
          have q2 : w5.cell? ⟨stp, 2, none⟩ = some (.int .u64 key) := (World.cell?_of_block (f5.block stp hstl (by simp; omega))).trans (hst2 2)
          have hlen : (Builtin.len_ #[44] 3 #[.map (some bb)]).run Try.prog w5 = .ok (.int .i64 (c : Nat)) w5 := MapF.len typedB M5.out _
          have F5 := hid f5
          have I5 := hid i5
          clear f5 i5
          go_wp2_with (at_mapUpdate; refine wpList_F_store_old _ rfl _ _ _ _ rfl typedB bb c f rfl M5.out C1 _ _ rfl rfl KK hN _ HFK.out ?_; intro w6 m6 gr6; have M6 := hid m6; have GR6 := hid gr6; clear m6 gr6)
          have H6 := hid (put_fin H4.out hkey (c) hgc hgn.1 HT'.out F5.out I5.out (frm_of_grown GR6.out) M6.out)
          clear hlen q1 q2 HP HT' M5 F5 I5 M6 GR6 H4 hst2 hgc H HS
          generalize putAt n S key (rowV g) = S' at *
          have HLn := hid (IdxJ.len_c H6.out.I)
          have hlz : (Builtin.len_ #[44] 3 #[.map (some bb)]).run Try.prog w6 = .ok (.int .i64 (c : Nat)) w6 := MapF.len typedB H6.out.M _
          go_wp2_with (go_at_call 21; refine HLn.out.mono ?_; rintro r w' ⟨rfl, rfl⟩)
          go_roundg (gk - 1)
          case measure => omega
          case rel => exact ⟨i + 1, c, S', fput f key N, by go_num, by omega, H6⟩
        · by_cases k3 : kind = 3
          · subst k3
            clear k1
            go_wp2_with (at_lookup; refine wpList_F_look_ok_some _ rfl _ _ _ rfl typedB bb c f rfl (HS.out _).M _ rfl KK _ HFK.out ?_)
            obtain ⟨w4, hw4⟩ : ∃ w4, w4 = (wr.alloc (.cells #[.int .i64 3, .int .i64 N, .int .u64 key] 46)) := ⟨_, rfl⟩
            rw [← hw4]
            have H4 : Hid (Keep w w4 b s bb n most ee c S f) := by rw [hw4]; exact hid (HS.out _)
            have hst2 : ∀ o : Nat, w4.cell? ⟨wr.heap.size, o, none⟩ = (#[.int .i64 3, .int .i64 N, .int .u64 key] : Array Value)[o]? := by
              intro o
              have h0 := alloc_at wr (.cells #[.int .i64 3, .int .i64 N, .int .u64 key] 46)
              rw [hw4]
              exact cell_of_block h0 o
            have hgn : wr.heap.size ≠ b ∧ wr.heap.size ≠ s ∧ wr.heap.size ≠ bb := by have := H.out.I.lb; have := H.out.I.ls; have := H.out.M.lt; omega
            have hstl : wr.heap.size < w4.heap.size := by rw [hw4]; simp
            clear hw4
            generalize wr.heap.size = stp at hst2 hgn hstl ⊢
            obtain ⟨c', rfl⟩ : ∃ c', c = c' + 1 := ⟨c - 1, by have := H4.out.T.count_pos (find_lt H4.out.T.pos S key) HTN'; omega⟩
            have HP := hid (drop_yes H4.out HTN.out)
            refine HP.out.mono ?_
            rintro r w5 ⟨rfl, f5, i5⟩
            have I5 := hid i5
            clear i5
            have M5 : Hid (MapB w5 bb f (c' + 1)) := hid (H4.out.M.of_block (f5.block bb H4.out.M.lt (by have := H4.out.ap; simp; exact this)))
            have q1 : w5.cell? ⟨stp, 1, none⟩ = some (.int .i64 N) := (World.cell?_of_block (f5.block stp hstl (by simp; omega))).trans (hst2 1)
            have q2 : w5.cell? ⟨stp, 2, none⟩ = some (.int .u64 key) := (World.cell?_of_block (f5.block stp hstl (by simp; omega))).trans (hst2 2)
            have g5 : w5.cell? ⟨g0, 0, none⟩ = some (.int .i64 N0) := by
              obtain ⟨h1, h2, h3, h4⟩ := HG.out
              have hc4 := HGW.out w4 H4.out
              exact (World.cell?_of_block (f5.block g0 (cell_lt hc4) (by simp; exact ⟨h2, h3⟩))).trans hc4
            have hlk : ∀ m, (Instr.lookup 44 (.map (some bb)) (.int .u64 key) false).run Try.prog (w5.drewN m) = .ok (.int .i64 N0) (w5.drewN m) := fun m => by
              have := MapF.look (W := w5.drewN m) typedB (MapF.of_block (W := w5) M5.out rfl) KK
              rw [HFK.out] at this; exact this
            have F5 := hid f5
            clear f5
            go_wp2_with fail
            go_quiet (fail)
            obtain ⟨w5', hw5'⟩ : ∃ w5', w5' = w5.drewN nq := ⟨_, rfl⟩
            rw [← hw5']
            have r2 : w5'.cell? ⟨stp, 2, none⟩ = some (.int .u64 key) := by rw [hw5']; exact q2
            have M5' : Hid (MapB w5' bb f (c' + 1)) := by rw [hw5']; exact hid (MapF.of_block M5.out rfl)
            have F5' : Hid (Frm [b, s] w4 w5') := by rw [hw5']; exact hid (F5.out.drewN _)
            have I5' : Hid (IdxAt w5' b s most c' n (conc nilS (dropAt n S (find n S key)))) := by rw [hw5']; exact hid (I5.out.drewN _)
            clear hw5' q1 q2 g5 hlk
            go_wp2_with (at_delete; refine wpList_F_delete_there _ rfl _ _ _ rfl typedB bb c' f rfl M5'.out _ rfl KK _ HFK.out ?_; intro w6 m6 gr6; have M6 := hid m6; have GR6 := hid gr6; clear m6 gr6)
            have H6 := hid (drop_fin H4.out HTN.out F5'.out I5'.out (frm_of_grown GR6.out) M6.out)
            clear HP M5 M5' F5 F5' I5 I5' M6 GR6 H4 hst2 H HS r2
            generalize dropAt n S (find n S key) = S' at *
            have HLn := hid (IdxJ.len_c H6.out.I)
            have hlz : (Builtin.len_ #[44] 3 #[.map (some bb)]).run Try.prog w6 = .ok (.int .i64 (c' : Nat)) w6 := MapF.len typedB H6.out.M _
            go_wp2_with (go_at_call 21; refine HLn.out.mono ?_; rintro r w' ⟨rfl, rfl⟩)
            go_roundg (gk - 1)
            case measure => omega
            case rel => exact ⟨i + 1, c', S', fdel f key, by go_num, by omega, H6⟩
          · by_cases k2 : kind = 2
            · subst k2
              clear k1 k3
              go_wp2_with (at_lookup; refine wpList_F_look_ok_some _ rfl _ _ _ rfl typedB bb c f rfl (HS.out _).M _ rfl KK _ HFK.out ?_)
              obtain ⟨w4, hw4⟩ : ∃ w4, w4 = (wr.alloc (.cells #[.int .i64 2, .int .i64 N, .int .u64 key] 46)) := ⟨_, rfl⟩
              rw [← hw4]
              have H4 : Hid (Keep w w4 b s bb n most ee c S f) := by rw [hw4]; exact hid (HS.out _)
              have hst2 : ∀ o : Nat, w4.cell? ⟨wr.heap.size, o, none⟩ = (#[.int .i64 2, .int .i64 N, .int .u64 key] : Array Value)[o]? := by
                intro o
                have h0 := alloc_at wr (.cells #[.int .i64 2, .int .i64 N, .int .u64 key] 46)
                rw [hw4]
                exact cell_of_block h0 o
              have hgn : wr.heap.size ≠ b ∧ wr.heap.size ≠ s ∧ wr.heap.size ≠ bb := by have := H.out.I.lb; have := H.out.I.ls; have := H.out.M.lt; omega
              have hstl : wr.heap.size < w4.heap.size := by rw [hw4]; simp
              clear hw4
              generalize wr.heap.size = stp at hst2 hgn hstl ⊢
              have HP := hid (get_one H4.out key)
              rw [show conc nilS S (find n S key) = (true, key, rowV g0) from by unfold conc; rw [HTN.out]] at HP
              refine HP.out.mono ?_
              rintro r w5 ⟨rfl, m5, hm5⟩
              have f5 : Frm [b, s] w4 w5 := by rw [hm5]; exact (Frm.refl _ _).drewN _
              have H5 : Hid (Keep w w5 b s bb n most ee c S f) := by rw [hm5]; exact hid (H4.out.drewN _)
              clear hm5
              have M5 : Hid (MapB w5 bb f (c)) := hid (H4.out.M.of_block (f5.block bb H4.out.M.lt (by have := H4.out.ap; simp; exact this)))
              have q1 : w5.cell? ⟨stp, 1, none⟩ = some (.int .i64 N) := (World.cell?_of_block (f5.block stp hstl (by simp; omega))).trans (hst2 1)
              have q2 : w5.cell? ⟨stp, 2, none⟩ = some (.int .u64 key) := (World.cell?_of_block (f5.block stp hstl (by simp; omega))).trans (hst2 2)
              have g5 : w5.cell? ⟨g0, 0, none⟩ = some (.int .i64 N0) := by
                obtain ⟨h1, h2, h3, h4⟩ := HG.out
                have hc4 := HGW.out w4 H4.out
                exact (World.cell?_of_block (f5.block g0 (cell_lt hc4) (by simp; exact ⟨h2, h3⟩))).trans hc4
              have hlk : ∀ m, (Instr.lookup 44 (.map (some bb)) (.int .u64 key) false).run Try.prog (w5.drewN m) = .ok (.int .i64 N0) (w5.drewN m) := fun m => by
                have := MapF.look (W := w5.drewN m) typedB (MapF.of_block (W := w5) M5.out rfl) KK
                rw [HFK.out] at this; exact this
              have F5 := hid f5
              clear f5
              go_wp2_with fail
              go_quiet (fail)
              obtain ⟨w6, hw6⟩ : ∃ w6, w6 = w5.drewN nq := ⟨_, rfl⟩
              rw [← hw6]
              have H6 : Hid (Keep w w6 b s bb n most ee c S f) := by rw [hw6]; exact hid (H5.out.drewN _)
              clear hw6 q1 q2 HP M5 F5 H4 H5 hst2 H HS g5 hlk
              have HLn := hid (IdxJ.len_c H6.out.I)
              have hlz : (Builtin.len_ #[44] 3 #[.map (some bb)]).run Try.prog w6 = .ok (.int .i64 (c : Nat)) w6 := MapF.len typedB H6.out.M _
              go_wp2_with (go_at_call 21; refine HLn.out.mono ?_; rintro r w' ⟨rfl, rfl⟩)
              go_roundg (gk - 1)
              case measure => omega
              case rel => exact ⟨i + 1, c, S, f, by go_num, by omega, H6⟩
            · have b1 : ((kind : Int) == 1) = false := by simp [k1]
              have b2 : ((kind : Int) == 2) = false := by simp [k2]
              have b3 : ((kind : Int) == 3) = false := by simp [k3]
              clear k1 k2 k3
              go_wp2_with (at_lookup; refine wpList_F_look_ok_some _ rfl _ _ _ rfl typedB bb c f rfl (HS.out _).M _ rfl KK _ HFK.out ?_)
              obtain ⟨w4, hw4⟩ : ∃ w4, w4 = (wr.alloc (.cells #[.int .i64 kind, .int .i64 N, .int .u64 key] 46)) := ⟨_, rfl⟩
              rw [← hw4]
              have H6 : Hid (Keep w w4 b s bb n most ee c S f) := by rw [hw4]; exact hid (HS.out _)
              clear hw4 H HS
              have HLn := hid (IdxJ.len_c H6.out.I)
              have hlz : (Builtin.len_ #[44] 3 #[.map (some bb)]).run Try.prog w4 = .ok (.int .i64 (c : Nat)) w4 := MapF.len typedB H6.out.M _
              go_wp2_with (go_at_call 21; refine HLn.out.mono ?_; rintro r w' ⟨rfl, rfl⟩)
              go_roundg (gk - 1)
              case measure => omega
              case rel => exact ⟨i + 1, c, S, f, by go_num, by omega, H6⟩
    · have HL := hid (lies_c H.out)
      have hor : ¬ i < len1 ∨ ¬ i < 3000 := by omega
      clear hlt
      by_cases h1 : i < len1
      · have h2 : ¬ i < 3000 := by omega
        clear hor
        go_wp2_with (go_at_call 22; refine HL.out.mono ?_; rintro r w9 ⟨rfl, hB9⟩)
        go_ret
        exact ⟨rfl, H.out.bel.trans (hB9.mono H.out.bel.size)⟩
      · clear hor
        go_wp2_with (go_at_call 22; refine HL.out.mono ?_; rintro r w9 ⟨rfl, hB9⟩)
        go_ret
        exact ⟨rfl, H.out.bel.trans (hB9.mono H.out.bel.size)⟩
set_option maxRecDepth 100000 in
theorem walk (a0 : Int) (a1 : Option Addr) (len1 cap1 : Nat) (w : World) (w0 : (Lit.int .i64 a0).wf = true) (w1 : StepsW w a1 len1) :
    Calls Try.prog 6 #[.int .i64 a0, .slice a1 len1 cap1] w fun e w' => e = .returned (.bool true) ∧ Below w.heap.size w w' := by
  by_cases h : a0 < 0 ∨ 4096 < a0
  · have HK := hid (LawA.known_c w)
    clear w0 w1
    rcases h with h | h
    all_goals
      go_enter Try.func6, Try.ntmps6
      go_wp2_with (go_at_call 14; refine HK.out.mono ?_; rintro e w1 ⟨rfl, fr0⟩)
      go_ret
      exact ⟨rfl, fr0.below (Nat.le_refl _) (by simp)⟩
  · obtain ⟨m, rfl⟩ := Int.eq_ofNat_of_zero_le (by omega : 0 ≤ a0)
    exact walkSmall m a1 len1 cap1 w (by omega) w1

/-! ### THE ROW's STEP: WRITTEN OUT: LEAVE IT -/
set_option maxRecDepth 100000 in
theorem lifted (os : Os) (started : os.Started) (H : Type) (enc : TypeId × Value → H) :
    ReturnsInHanded {} Try.checked os 6 .any (Rows.indexKeepsSpec.pre6 enc Try.prog Try.f6 Rows.indexKeepsRow.domain false) (Rows.indexKeepsSpec.post enc Try.prog Try.f6 false true false false) := by
  refine returnsInHanded_of_change (C := Try.checked) own started (by kernel_rfl) Try.func6
    (ChangeSpec.witness6 (enc := enc) (C := Try.checked) false ⟨#[], #[.int .i64 0, .slice none 0 0], []⟩ 8 (by kernel_rfl) (by kernel_rfl) (by kernel_rfl) (by kernel_rfl)) ?_
  intro W base args ds gs before hval0 hW hcnd _
  have hval : ∀ (j : Nat) t v, Try.f6.params[j]? = some t → args[j]? = some v → Value.okWide Try.prog W .any base t v := hval0
  have hW' := hW
  obtain ⟨p, q, hA0, hV, rfl, hfz, hnd⟩ := hW
  have hA : DataW.TrodAll enc Try.prog W 0 (fun _ => true) true Try.f6.params.toList args.toList ds p := hA0
  rw [Try.params6] at hA hval
  obtain ⟨v0, vs0, d0, ds0, p0, q0, hargs, rfl, rfl, h0, r0⟩ := trodAll_cons hA
  obtain ⟨v1, vs1, d1, ds1, p1, q1, rfl, rfl, rfl, h1, r1⟩ := trodAll_cons r0
  obtain ⟨rfl, rfl, rfl⟩ := trodAll_nil r1
  obtain rfl : args = #[v0, v1] := by cases args; simp_all
  obtain ⟨rfl, rfl⟩ := trodVars_none hV
  obtain ⟨a0, rfl, rfl, rfl, w0⟩ := open_int Try.underlying3 (hval 0 3 v0 rfl rfl) h0
  obtain ⟨a1, len1, cap1, rfl⟩ := okWide_slice Try.underlying40 (hval 1 40 v1 rfl rfl)
  have k1 := h1
  have lt1 : ∀ x ∈ p1, x.block < W.heap.size := by obtain ⟨m, hm⟩ := k1; exact DataW.trod_lt m _ _ _ hm
  have w1 : StepsW W a1 len1 := by
    obtain ⟨fuel, hf⟩ := h1
    exact open_stepsW Try.underlying40 Try.underlying46 (by kernel_rfl) (by kernel_rfl) Try.underlying3 Try.underlying3 Try.underlying30 hf
  clear hA0 hval0
  refine (walk a0 a1 len1 cap1 W w0 w1).mono fun e W' ⟨he, bel⟩ => ?_
  subst he
  exact ⟨_, rfl, _, _, _, [], _, [], hW', trodAll_mk1 (shut_bool Try.underlying4 _), (trodAll_cons_mk (shut_int Try.underlying3 w0) (trodAll_cons_mk (Below.trod laidOut (by kernel_rfl) (of_decide_eq_true (by kernel_rfl)) k1 bel lt1) trodAll_mk0)), rfl, bel.frame _, fun h => by cases h⟩

theorem over : Rows.indexKeepsRow.holds Try.pinned (OpenSpec.ofChange Rows.indexKeepsSpec) :=
  OpenClaim.holds_of_wide 6 Try.f6 rfl rfl rfl rfl rfl rfl rfl ⟨rfl, rfl, rfl, rfl, rfl⟩ rfl rfl rfl rfl rfl (by kernel_rfl) Try.func6 (by kernel_rfl)
    (of_decide_eq_true (by kernel_rfl)) (by unfold Func.isWrapper; first | (rw [if_pos (by decide +kernel)]; kernel_rfl) | (rw [if_neg (by decide +kernel)]; exact ⟨rfl, rfl⟩))
    (fun os started H enc _ => lifted os started H enc)

/-- ████ THE STATEMENT ████ -/
theorem proved : Rows.IndexKeepsSaid := over
end Go.Proofs.Ytcieieljgmkjmaa.indexKeeps
