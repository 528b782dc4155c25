/- THE WALKS over the document's index. -/
import Derived.Test.YtcieieljgmkjmaaRows
import Derived.WalkKit
import Derived.WalkSpells
import Derived.WalkLawsBesides
import Derived.BigQuiet
import Derived.Deep.QuietTactic
import Derived.Deep.LoopGhost
import Derived.Test.YtcieieljgmkjmaaRefBase
set_option linter.unusedVariables false
namespace Go.Proofs.Ytcieieljgmkjmaa.Ref
open Go.RowKit Winnow

theorem ret_int {k : IntKind} {a b : Int} (h : a = b) : Ending.returned (.int k a) = .returned (.int k b) := by rw [h]

set_option maxHeartbeats 400000 in
theorem home_c {w : World} {b n e : Nat} (h1 : w.cell? ⟨b, 1, none⟩ = some (.int .i64 e)) (g : Geo n e) (key : Nat) :
    Calls Try.prog 16 #[.pointer (some ⟨b, 0, none⟩), .int .u64 key] w fun r w' => r = .returned (.int .i64 (home n key)) ∧ w = w' := by
  have hs := g.small
  have hge := g.ge
  have hle := g.le
  have hh := home_lt g.pos key
  have hsh : IntKind.u64.wrap ((key : Int) * 11400714819323198485) / 2 ^ (64 - e) = ((home n key : Nat) : Int) := by
    rw [← home_shift g, IntKind.wrap_u64, Int.natCast_ediv, Int.natCast_emod, Int.natCast_mul, Int.natCast_pow]; rfl
  have HS := hid hsh
  generalize home n key = hm at HS hh ⊢
  clear g hsh
  go_enter Try.func16, Try.ntmps16
  go_wp2
  go_ret
  refine ⟨ret_int ?_, rfl⟩
  rw [HS.out]
  exact IntWalk.wrap64_in _ ⟨by omega, by omega⟩

set_option maxHeartbeats 800000 in
theorem find_c {w : World} {b x ks vs most e len n : Nat} {D : Nat → Bool × Nat × Int} {S : Tb Value} (h : RefAt w b x ks vs most e len n D) (R : Rep n D S) (g : Geo n e) {em : Nat} (hem : em < n) (hemp : S em = none) (key : Nat) :
    Calls Try.prog 61 #[.pointer (some ⟨b, 0, none⟩), .int .u64 key] w fun r w' => r = .returned (.int .i64 (find n S key)) ∧ w = w' := by
  have h2 := h.c2
  have h3 := h.c3
  have hs := g.small
  have hp := g.pos
  have hh := home_lt g.pos key
  have hstop := (find_spec hem hemp key).1
  have hq := find_lt g.pos S key
  have H1 := hid (home_c h.c1 g key)
  have Hf : Hid (find n S key = findGo n S key n (home n key)) := rfl
  generalize find n S key = q at hstop hq Hf ⊢
  have HQ := hid hstop
  clear hstop
  generalize home n key = h0 at H1 Hf hh
  go_enter Try.func61, Try.ntmps61
  go_wp2_with (go_at_call 16; refine H1.out.mono ?_; rintro e w' ⟨rfl, rfl⟩)
  clear H1
  go_loopg [5] n (fun g s5 wr => w = wr ∧ ∃ a : Nat, s5 = .int .i64 a ∧ a < n ∧ Hid (q = findGo n S key g a))
  case atStart => exact ⟨rfl, h0, rfl, hh, Hf⟩
  case round =>
    clear Hf
    obtain ⟨rfl, a, rfl, ha, hg⟩ := hrel
    have d0 := h.k0 a ha
    have d1 := h.k1 a ha
    have hst := R.stop ha key
    have hgo : stopAt S key a = false → ∃ k, k < gk ∧ q = findGo n S key k (nx n a) := by
      intro hs'
      cases gk with
      | zero => exfalso; have := hg.out; simp only [findGo] at this; have h' := HQ.out; rw [this, hs'] at h'; exact absurd h' (by decide)
      | succ k => exact ⟨k, by omega, by have := hg.out; rw [findGo_go hs'] at this; exact this⟩
    have hst2 : stopAt S key a = true → q = a := fun hs' => by have := hg.out; rw [findGo_stop hs'] at this; exact this
    have G1 := hid hgo
    have G2 := hid hst2
    have Hst := hid hst
    clear hst hgo hst2 h hg R
    cases ht : (D a).1
    · have hqa : q = a := G2.out (by rw [Hst.out, ht]; rfl)
      subst hqa
      rw [ht] at d0
      clear G1 G2 Hst ht
      go_wp2
      go_ret
      exact ⟨rfl, rfl⟩
    · rw [ht] at d0
      by_cases hk : (D a).2.1 = key
      · have hqa : q = a := G2.out (by rw [Hst.out, ht, hk]; simp)
        subst hqa
        have hk' : (((D q).2.1 : Int) != (key : Int)) = false := by simp [hk]
        clear G1 G2 Hst hk ht
        go_wp2
        go_ret
        exact ⟨rfl, rfl⟩
      · have hk' : (((D a).2.1 : Int) != (key : Int)) = true := by simp; omega
        have hns : stopAt S key a = false := by rw [Hst.out, ht]; simp [hk]
        obtain ⟨k', hk1, hk2⟩ := G1.out hns
        have HK := hid hk2
        have hnx := nx_lt ha
        have hmod : ((a : Int) + 1) % (n : Int) = ((nx n a : Nat) : Int) := by rw [← nx_mod ha]; rfl
        generalize nx n a = na at *
        clear G1 G2 Hst hk hns hk2 ht
        go_wp2
        go_roundg k'
        case measure => exact hk1
        case rel => exact ⟨rfl, na, by rw [hmod], hnx, HK⟩

theorem ret_bool {a b : Bool} (h : a = b) : Ending.returned (.bool a) = .returned (.bool b) := by rw [h]

set_option maxHeartbeats 400000 in
theorem behind_c {n i h k : Nat} (w : World) (hi : i < n) (hh : h < n) (hk : k < n) (hik : i ≠ k) :
    Calls Try.prog 62 #[.int .i64 i, .int .i64 h, .int .i64 k] w fun r w' => r = .returned (.bool (!decide (dist n i k ≤ dist n h k))) ∧ w = w' := by
  have hb := hid (behind_dist hi hh hk hik)
  generalize decide (dist n i k ≤ dist n h k) = z at hb ⊢
  clear hi hh hk hik
  by_cases c1 : i < k <;> by_cases c2 : i < h <;> by_cases c3 : h ≤ k
  all_goals
    have hz : Hid (_ = z) := hid (by have := hb.out; simp only [c1, c2, c3, if_true, if_false, decide_true, decide_false, Bool.and_true, Bool.true_and, Bool.and_false, Bool.false_and, Bool.or_true, Bool.true_or, Bool.or_false, Bool.false_or] at this; exact (Bool.not_eq_eq_eq_not.1 this.symm).symm)
    clear hb
    go_enter Try.func62, Try.ntmps62
    go_wp2
    go_ret
    exact ⟨ret_bool (by rw [← hz.out]; rfl), rfl⟩

set_option maxHeartbeats 400000 in
theorem get_c {w : World} {b x ks vs most e len n : Nat} {D : Nat → Bool × Nat × Int} {S : Tb Value} (h : RefAt w b x ks vs most e len n D) (R : Rep n D S) (g : Geo n e) {em : Nat} (hem : em < n) (hemp : S em = none) (key : Nat) :
    Calls Try.prog 50 #[.pointer (some ⟨b, 0, none⟩), .int .u64 key] w fun r w' =>
      r = .returned (.tuple #[(conc (.int .i64 0) S (find n S key)).2.2, .bool (S (find n S key)).isSome]) ∧ w = w' := by
  have h2 := h.c2
  have h4 := h.c4
  have hs := g.small
  have hp := g.pos
  have hq := find_lt g.pos S key
  have H1 := hid (find_c h R g hem hemp key)
  generalize find n S key = q at hq H1 ⊢
  have d0 := h.k0 q hq
  have d2 := h.k2 q hq
  rcases R q hq with ⟨r1, r2⟩ | ⟨r1, r2⟩
  all_goals
    rw [r2] at d0
    simp only [conc, r1, Option.isSome]
    clear r1 r2 h R g
    go_enter Try.func50, Try.ntmps50
    go_wp2_with (go_at_call 61; refine H1.out.mono ?_; rintro e w' ⟨rfl, rfl⟩)
    go_ret2
    exact ⟨rfl, rfl⟩

set_option maxHeartbeats 400000 in
theorem slot_c {w : World} {b x ks vs most e len n : Nat} {D : Nat → Bool × Nat × Int} {S : Tb Value} (h : RefAt w b x ks vs most e len n D) (R : Rep n D S) (g : Geo n e) {em : Nat} (hem : em < n) (hemp : S em = none) (key : Nat) :
    Calls Try.prog 52 #[.pointer (some ⟨b, 0, none⟩), .int .u64 key] w fun r w' =>
      r = .returned (.tuple #[.int .i64 (if (S (find n S key)).isSome then (find n S key : Nat) else 0 : Nat), .bool (S (find n S key)).isSome]) ∧ w = w' := by
  have h2 := h.c2
  have hs := g.small
  have hp := g.pos
  have hq := find_lt g.pos S key
  have H1 := hid (find_c h R g hem hemp key)
  generalize find n S key = q at hq H1 ⊢
  have d0 := h.k0 q hq
  rcases R q hq with ⟨r1, r2⟩ | ⟨r1, r2⟩
  all_goals
    rw [r2] at d0
    simp only [r1, Option.isSome]
    clear r1 r2 h R g
    go_enter Try.func52, Try.ntmps52
    go_wp2_with (go_at_call 61; refine H1.out.mono ?_; rintro e w' ⟨rfl, rfl⟩)
    go_ret2
    exact ⟨rfl, rfl⟩

/-- What a change of the document's index leaves. -/
def Now (w : World) (b x ks vs most e len n : Nat) (S : Tb Value) (w' : World) : Prop :=
  Frm [b, x, ks, vs] w w' ∧ ∃ D, RefAt w' b x ks vs most e len n D ∧ Rep n D S

set_option maxHeartbeats 800000 in
theorem put_old {w : World} {b x ks vs most e len n : Nat} {D : Nat → Bool × Nat × Int} {S : Tb Value} (h : RefAt w b x ks vs most e len n D) (R : Rep n D S) (g : Geo n e) {em : Nat} (hem : em < n) (hemp : S em = none) (key : Nat) (v : Int)
    (ht : S (find n S key) ≠ none) :
    Calls Try.prog 49 #[.pointer (some ⟨b, 0, none⟩), .int .u64 key, .int .i64 v] w fun r w' => r = .returned (.int .i64 0) ∧ Now w b x ks vs most e len n (putAt n S key (.int .i64 v)) w' := by
  have h2 := h.c2
  have h3 := h.c3
  have h4 := h.c4
  have hs := g.small
  have hp := g.pos
  have hq := find_lt g.pos S key
  have H1 := hid (find_c h R g hem hemp key)
  have HN : Hid (Now w b x ks vs most e len n (putAt n S key (.int .i64 v)) (((w.setCell ⟨x, find n S key, none⟩ (.bool true)).setCell ⟨ks, find n S key, none⟩ (.int .u64 key)).setCell ⟨vs, find n S key, none⟩ (.int .i64 v))) :=
    hid ⟨(((Frm.refl _ w).setCell (by simp) _).setCell (by simp) _).setCell (by simp) _, _, h.setAll hq key v, R.upd_some _ _ _⟩
  have d0 := h.k0 _ hq
  have d1 := h.k1 _ hq
  have d2 := h.k2 _ hq
  rw [R.tk hq, show (S (find n S key)).isSome = true from by cases hx : S (find n S key) with | none => exact absurd hx ht | some _ => rfl] at d0
  generalize putAt n S key (.int .i64 v) = S' at *
  generalize find n S key = q at *
  have bx := h.bx; have bk := h.bk; have bv := h.bv; have xk := h.xk; have xv := h.xv; have kv := h.kv
  have fx : ∀ o, w.frozen? ⟨x, o, none⟩ = false := h.fx
  have fk : ∀ o, w.frozen? ⟨ks, o, none⟩ = false := h.fk
  have fv : ∀ o, w.frozen? ⟨vs, o, none⟩ = false := h.fv
  clear ht h R g hemp
  go_enter Try.func49, Try.ntmps49
  go_wp2_with (go_at_call 61; refine H1.out.mono ?_; rintro e w' ⟨rfl, rfl⟩)
  go_ret
  exact ⟨rfl, HN.out⟩

set_option maxHeartbeats 800000 in
theorem put_full {w : World} {b x ks vs most e n : Nat} {D : Nat → Bool × Nat × Int} {S : Tb Value} (h : RefAt w b x ks vs most e most n D) (R : Rep n D S) (g : Geo n e) {em : Nat} (hem : em < n) (hemp : S em = none) (key : Nat) (v : Int)
    (ht : S (find n S key) = none) :
    Calls Try.prog 49 #[.pointer (some ⟨b, 0, none⟩), .int .u64 key, .int .i64 v] w fun r w' => r = .returned (.int .i64 3) ∧ ∃ m, w' = w.drewN m := by
  have h2 := h.c2
  have h0 := h.c0
  have h5 := h.c5
  have hs := g.small
  have hp := g.pos
  have hq := find_lt g.pos S key
  have H1 := hid (find_c h R g hem hemp key)
  have d0 := h.k0 _ hq
  rw [R.tk hq, ht] at d0
  generalize find n S key = q at *
  clear ht h R g hemp
  go_enter Try.func49, Try.ntmps49
  go_wp2_with (go_at_call 61; refine H1.out.mono ?_; rintro e w' ⟨rfl, rfl⟩)
  go_quiet (fail)
  go_wp2
  go_ret
  exact ⟨rfl, _, rfl⟩

set_option maxHeartbeats 800000 in
theorem put_new {w : World} {b x ks vs most e len n : Nat} {D : Nat → Bool × Nat × Int} {S : Tb Value} (h : RefAt w b x ks vs most e len n D) (R : Rep n D S) (g : Geo n e) {em : Nat} (hem : em < n) (hemp : S em = none) (key : Nat) (v : Int)
    (hm : len < most) (hmn : most ≤ n) (ht : S (find n S key) = none) :
    Calls Try.prog 49 #[.pointer (some ⟨b, 0, none⟩), .int .u64 key, .int .i64 v] w fun r w' => r = .returned (.int .i64 0) ∧ Now w b x ks vs most e (len + 1) n (putAt n S key (.int .i64 v)) w' := by
  have h2 := h.c2
  have h3 := h.c3
  have h4 := h.c4
  have h0 := h.c0
  have h5 := h.c5
  have hs := g.small
  have hp := g.pos
  have hq := find_lt g.pos S key
  have H1 := hid (find_c h R g hem hemp key)
  have HN : Hid (∀ m, Now w b x ks vs most e (len + 1) n (putAt n S key (.int .i64 v)) (((((w.drewN m).setCell ⟨b, 5, none⟩ (.int .i64 ((len : Int) + 1))).setCell ⟨x, find n S key, none⟩ (.bool true)).setCell ⟨ks, find n S key, none⟩ (.int .u64 key)).setCell ⟨vs, find n S key, none⟩ (.int .i64 v))) :=
    hid fun m => ⟨(((((Frm.refl _ w).drewN m).setCell (by simp) _).setCell (by simp) _).setCell (by simp) _).setCell (by simp) _, _, ((h.drewN m).setLen (len + 1)).setAll hq key v, R.upd_some _ _ _⟩
  have d0 := h.k0 _ hq
  have d1 := h.k1 _ hq
  have d2 := h.k2 _ hq
  rw [R.tk hq, ht] at d0
  generalize putAt n S key (.int .i64 v) = S' at *
  generalize find n S key = q at *
  have bx := h.bx; have bk := h.bk; have bv := h.bv; have xk := h.xk; have xv := h.xv; have kv := h.kv
  have fb : ∀ o, w.frozen? ⟨b, o, none⟩ = false := h.fb
  have fx : ∀ o, w.frozen? ⟨x, o, none⟩ = false := h.fx
  have fk : ∀ o, w.frozen? ⟨ks, o, none⟩ = false := h.fk
  have fv : ∀ o, w.frozen? ⟨vs, o, none⟩ = false := h.fv
  have hm' : ((len : Int) == (most : Int)) = false := by simp; omega
  clear ht h R g hemp
  go_enter Try.func49, Try.ntmps49
  go_wp2_with (go_at_call 61; refine H1.out.mono ?_; rintro e w' ⟨rfl, rfl⟩)
  go_quiet (fail)
  go_wp2
  go_ret
  exact ⟨rfl, HN.out _⟩

end Go.Proofs.Ytcieieljgmkjmaa.Ref
