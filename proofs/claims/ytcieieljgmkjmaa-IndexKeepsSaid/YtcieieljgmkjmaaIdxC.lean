/- THE WALKS over the program's index at values of type int: drop. -/
import Derived.Test.YtcieieljgmkjmaaIdxA
import Derived.BigRegion
set_option linter.unusedVariables false
namespace Go.Proofs.Ytcieieljgmkjmaa.IdxI
open Go.RowKit Winnow

/-- What holds at the head of a round of drop's loop: the empty place is i, still with what lay there; the place that is looked at is k. -/
def DR (w0 : World) (b s most count n : Nat) (z : Value) (F : Tb Value) (em : Nat) (f : Nat) (s6 s7 : Value) (wr : World) : Prop :=
  ∃ (i k : Nat) (S : Tb Value) (st : Bool × Nat × Value) (sv : Int), s6 = .int .i64 i ∧ s7 = .int .i64 k ∧ i < n ∧ k < n ∧ Dst n S i k em ∧ dist n k em ≤ f ∧ dropGo n f S i k = F ∧ st.2.2 = .int .i64 sv ∧ (∀ j k u, S j = some (k, u) → ∃ x, u = .int .i64 x) ∧
    IdxAt wr b s most count n (upd (conc z S) i st) ∧ Frm [b, s] w0 wr

theorem DR.move {w0 : World} {b s most count n : Nat} {z : Value} {F S : Tb Value} {em f : Nat} {i k y : Nat} {v : Int} {st : Bool × Nat × Value} {wr : World} (D : Dst n S i k em) (hd : dist n k em ≤ f + 1) (hF : dropGo n (f + 1) S i k = F)
    (hi : ∀ j k u, S j = some (k, u) → ∃ x, u = .int .i64 x) (hI : IdxAt wr b s most count n (upd (conc z S) i st)) (hR : Frm [b, s] w0 wr) (hk : S k = some (y, .int .i64 v)) (hh : dist n i k ≤ dist n (home n y) k) (m : Nat) :
    DR w0 b s most count n z F em f (.int .i64 k) (.int .i64 (nx n k)) ((((wr.drewN m).setCell ⟨s, i * 3, none⟩ (.bool true)).setCell ⟨s, i * 3 + 1, none⟩ (.int .u64 y)).setCell ⟨s, i * 3 + 2, none⟩ (.int .i64 v)) := by
  have hke : k ≠ em := fun h => by rw [h, D.emp] at hk; simp at hk
  refine ⟨k, nx n k, upd (upd S i (S k)) k none, (true, y, .int .i64 v), v, rfl, rfl, D.lk, nx_lt D.lk, D.move hk hh, ?_, ?_, rfl, ?_, ?_, (hR.drewN m).setSlot (by simp) _ _ _⟩
  · rw [dist_nx D.lk D.le hke] at hd; omega
  · rw [← hF]; conv => rhs; unfold dropGo
    rw [hk]; simp only [hh, if_true]
  · intro j x u hj
    unfold upd at hj
    split at hj
    · simp at hj
    · split at hj
      · exact hi k x u hj
      · exact hi j x u hj
  · have h1 := (hI.drewN m).setSlot D.li true y (.int .i64 v)
    have e : upd (conc z (upd (upd S i (S k)) k none)) k (true, y, Value.int .i64 v) = upd (upd (conc z S) i st) i (true, y, .int .i64 v) := by
      funext j
      by_cases hj : j = k
      · subst hj
        rw [upd_same, upd_other _ _ (fun e => D.ik e.symm), upd_other _ _ (fun e => D.ik e.symm)]
        unfold conc; rw [hk]
      · rw [upd_other _ _ hj]
        by_cases hi : j = i
        · subst hi; rw [upd_same]; unfold conc; rw [upd_other _ _ hj, upd_same, hk]
        · rw [upd_other _ _ hi, upd_other _ _ hi]; unfold conc; rw [upd_other _ _ hj, upd_other _ _ hi]
    rw [e]; exact h1

theorem DR.stay {w0 : World} {b s most count n : Nat} {z : Value} {F S : Tb Value} {em f : Nat} {i k y : Nat} {v : Value} {st : Bool × Nat × Value} {sv : Int} {wr : World} (D : Dst n S i k em) (hd : dist n k em ≤ f + 1) (hF : dropGo n (f + 1) S i k = F)
    (hst : st.2.2 = .int .i64 sv) (hi : ∀ j k u, S j = some (k, u) → ∃ x, u = .int .i64 x) (hI : IdxAt wr b s most count n (upd (conc z S) i st)) (hR : Frm [b, s] w0 wr) (hk : S k = some (y, v)) (hh : ¬ dist n i k ≤ dist n (home n y) k) (m : Nat) :
    DR w0 b s most count n z F em f (.int .i64 i) (.int .i64 (nx n k)) (wr.drewN m) := by
  have hke : k ≠ em := fun h => by rw [h, D.emp] at hk; simp at hk
  refine ⟨i, nx n k, S, st, sv, rfl, rfl, D.li, nx_lt D.lk, D.stay hk hh, ?_, ?_, hst, hi, hI.drewN m, hR.drewN m⟩
  · rw [dist_nx D.lk D.le hke] at hd; omega
  · rw [← hF]; conv => rhs; unfold dropGo
    rw [hk]; simp only [hh, if_false]

set_option maxHeartbeats 800000 in
theorem drop_none {w : World} {b s most count n e : Nat} {z : Value} {S : Tb Value} (h : IdxAt w b s most count n (conc z S)) (g : Geo n e) {em : Nat} (hem : em < n) (hemp : S em = none) (key : Nat) (ht : S (find n S key) = none) :
    Calls Try.prog 25 #[.pointer (some ⟨b, 0, none⟩), .int .u64 key] w fun r w' => r = .returned (.tuple #[.int .i64 0, .bool false]) ∧ ∃ m, w' = w.drewN m := by
  have hs := g.small
  have hp := g.pos
  have hq := find_lt g.pos S key
  have hcq : (conc z S (find n S key)).1 = false := by unfold conc; rw [ht]
  have H1 := hid (find_c h g hem hemp key)
  rw [hcq] at H1
  clear hcq ht
  generalize find n S key = q at hq H1 ⊢
  clear h g hemp
  go_enter Try.func25, Try.ntmps25
  go_wp2_with (go_at_call 46; refine H1.out.mono ?_; rintro e w' ⟨rfl, m, rfl⟩)
  go_ret2
  exact ⟨rfl, _, rfl⟩

set_option maxHeartbeats 1600000 in
theorem drop_some {w : World} {b s most count n e : Nat} {S : Tb Value} (h : IdxAt w b s most (count + 1) n (conc (.int .i64 0) S)) (g : Geo n e) (I : Inv n S) (hc : count < n) {em : Nat} (hem : em < n) (hemp : S em = none) (key : Nat)
    {v : Int} (ht : S (find n S key) = some (key, .int .i64 v)) (hint : ∀ i k u, S i = some (k, u) → ∃ x, u = .int .i64 x) :
    Calls Try.prog 25 #[.pointer (some ⟨b, 0, none⟩), .int .u64 key] w fun r w' => r = .returned (.tuple #[.int .i64 v, .bool true]) ∧
      Frm [b, s] w w' ∧ IdxAt w' b s most count n (conc (.int .i64 0) (dropAt n S (find n S key))) := by
  have hs := g.small
  have hp := g.pos
  have hq := find_lt g.pos S key
  have hcq : conc (.int .i64 0) S (find n S key) = (true, key, .int .i64 v) := by unfold conc; rw [ht]
  have H1 := hid (find_c h g hem hemp key)
  rw [hcq] at H1
  have hqe : find n S key ≠ em := fun e' => by rw [e', hemp] at ht; simp at ht
  have hD := Dst.start I hq hem hemp hqe
  generalize find n S key = q at *
  have d2 := h.k2 q hq
  rw [hcq] at d2
  have h1 := h.c1
  obtain ⟨cp, h2⟩ := h.c2
  have fb : ∀ o, w.frozen? ⟨b, o, none⟩ = false := h.fb
  have hDR : ∀ m, DR w b s most count n (.int .i64 0) (dropAt n S q) em n (.int .i64 q) (.int .i64 (nx n q)) ((w.drewN m).setCell ⟨b, 1, none⟩ (.int .i64 count)) := by
    intro m
    refine ⟨q, nx n q, upd S q none, (true, key, .int .i64 v), v, rfl, rfl, hq, nx_lt hq, hD, Nat.le_of_lt (dist_lt (nx_lt hq) hem), rfl, rfl, ?_, ?_, ((Frm.refl _ w).drewN m).setCell (by simp) _⟩
    · intro j x u hj
      unfold upd at hj
      split at hj
      · simp at hj
      · exact hint j x u hj
    have h' := (h.drewN m).setCount count
    have e : conc (Value.int .i64 0) S = upd (conc (.int .i64 0) (upd S q none)) q (true, key, .int .i64 v) := by
      funext j
      by_cases hj : j = q
      · rw [hj, upd_same, hcq]
      · rw [upd_other _ _ hj]; unfold conc; rw [upd_other _ _ hj]
    rw [← e]; exact h'
  have HDR := hid hDR
  have Hbe := hid (fun (wx : World) (i : Nat) (cp : Nat) (hx : wx.cell? ⟨b, 2, none⟩ = some (.slice (some ⟨s, 0, none⟩) n cp)) (hi : i < n) => behind_c hx g hi)
  have Hho := hid (fun (wx : World) (y : Nat) (cp : Nat) (hx : wx.cell? ⟨b, 2, none⟩ = some (.slice (some ⟨s, 0, none⟩) n cp)) => home_c hx g y)
  clear hDR hD h I ht hcq hqe
  go_enter Try.func25, Try.ntmps25
  go_wp2_with (first | (go_at_call 46; refine H1.out.mono ?_; rintro e w' ⟨rfl, m, rfl⟩) | (go_at_call 47; refine (Hbe.out _ q cp (by go_simp) hq).mono ?_; rintro e w' ⟨rfl, rfl⟩))
  clear H1
  go_loopg [6, 7] n (fun f s6 s7 wr => DR w b s most count n (.int .i64 0) (dropAt n S q) em f s6 s7 wr)
  case atStart => exact HDR.out m
  case round =>
    clear HDR h1 h2 d2
    obtain ⟨i, k, S', st, sv, rfl, rfl, hi, hk, D, hd, hF, hst, hin, hI, hR⟩ := hrel
    have hik := D.ik
    have hne := hI.ne
    obtain ⟨cp', c2⟩ := hI.c2
    have k0 := hI.k0 k hk
    have k1 := hI.k1 k hk
    have i0 := hI.k0 i hi
    have i1 := hI.k1 i hi
    have i2 := hI.k2 i hi
    have fs : ∀ o, wr.frozen? ⟨s, o, none⟩ = false := hI.fs
    have k2 := hI.k2 k hk
    rw [upd_other _ _ (fun e => hik e.symm)] at k0 k1 k2
    rw [upd_same] at i0 i1 i2
    rw [hst] at i2
    cases hS : S' k with
    | none =>
      have hck : conc (.int .i64 0) S' k = (false, 0, .int .i64 0) := by unfold conc; rw [hS]
      rw [hck] at k0
      have hfin : Frm [b, s] w (((wr.setCell ⟨s, i * 3, none⟩ (.bool false)).setCell ⟨s, i * 3 + 1, none⟩ (.int .u64 0)).setCell ⟨s, i * 3 + 2, none⟩ (.int .i64 0)) ∧
          IdxAt (((wr.setCell ⟨s, i * 3, none⟩ (.bool false)).setCell ⟨s, i * 3 + 1, none⟩ (.int .u64 0)).setCell ⟨s, i * 3 + 2, none⟩ (.int .i64 0)) b s most count n (conc (.int .i64 0) (dropAt n S q)) := by
        refine ⟨hR.setSlot (by simp) _ _ _, ?_⟩
        have h' := hI.setSlot hi false 0 (.int .i64 0)
        have e : upd (upd (conc (Value.int .i64 0) S') i st) i (false, 0, .int .i64 0) = conc (.int .i64 0) (dropAt n S q) := by
          have : dropGo n gk S' i k = S' := by cases gk <;> simp [dropGo, hS]
          rw [← hF, this]
          funext j
          by_cases hj : j = i
          · rw [hj, upd_same]; unfold conc; rw [D.hole]
          · rw [upd_other _ _ hj, upd_other _ _ hj]
        rw [e] at h'; exact h'
      have HF := hid hfin
      clear hfin hI hR hF D hd hin hS hck k1 k2 hst Hbe Hho hint
      go_wp2
      go_ret2
      exact ⟨rfl, HF.out⟩
    | some x =>
      obtain ⟨y, u⟩ := x
      obtain ⟨x, rfl⟩ := hin k y u hS
      have hck : conc (.int .i64 0) S' k = (true, y, .int .i64 x) := by unfold conc; rw [hS]
      rw [hck] at k0 k1 k2
      obtain ⟨f, rfl⟩ : ∃ f, gk = f + 1 := by
        cases gk with
        | zero => exfalso; have := D.le; have : k = em := by have := dc n k em; omega
                  rw [this, D.emp] at hS; simp at hS
        | succ f => exact ⟨f, rfl⟩
      have hhl := home_lt g.pos y
      have a1 := and_dist g hhl hk
      have a2 := and_dist g hi hk
      by_cases hh : dist n i k ≤ dist n (home n y) k
      · have HM := hid (fun m => DR.move D hd hF hin hI hR hS hh m)
        clear hI hR hF D hd hin hS hck hst hint
        generalize dist n (home n y) k = dy at *
        generalize dist n i k = di at *
        have HH := hid (Hho.out wr y cp' c2)
        clear Hho
        generalize home n y = hy at *
        go_wp2_with (first | (go_at_call 13; refine HH.out.mono ?_; rintro e w' ⟨rfl, rfl⟩))
        go_quiet (fail)
        go_wp2
        go_region
        go_wp2_with (go_at_call 47; refine (Hbe.out _ k cp' (by go_simp) hk).mono ?_; rintro e w' ⟨rfl, rfl⟩)
        go_roundg f
        case measure => omega
        case rel => exact HM.out _
      · have HM := hid (fun m => DR.stay D hd hF hst hin hI hR hS hh m)
        clear hI hR hF D hd hin hS hck hst hint
        generalize dist n (home n y) k = dy at *
        generalize dist n i k = di at *
        have HH := hid (Hho.out wr y cp' c2)
        clear Hho
        generalize home n y = hy at *
        go_wp2_with (first | (go_at_call 13; refine HH.out.mono ?_; rintro e w' ⟨rfl, rfl⟩))
        go_quiet (fail)
        go_wp2_with (go_at_call 47; refine (Hbe.out _ k cp' (by go_simp) hk).mono ?_; rintro e w' ⟨rfl, rfl⟩)
        go_roundg f
        case measure => omega
        case rel => exact HM.out _
end Go.Proofs.Ytcieieljgmkjmaa.IdxI
