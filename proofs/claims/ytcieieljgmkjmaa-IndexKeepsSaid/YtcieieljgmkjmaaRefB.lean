/- THE WALKS over the document's index: drop, new. -/
import Derived.Test.YtcieieljgmkjmaaRefA
import Derived.BigRegion
set_option linter.unusedVariables false
namespace Go.Proofs.Ytcieieljgmkjmaa.Ref
open Go.RowKit Winnow

set_option maxHeartbeats 800000 in
theorem drop_none {w : World} {b x ks vs most e len n : Nat} {D : Nat → Bool × Nat × Int} {S : Tb Value} (h : RefAt w b x ks vs most e len n D) (R : Rep n D S) (g : Geo n e) {em : Nat} (hem : em < n) (hemp : S em = none) (key : Nat)
    (ht : S (find n S key) = none) :
    Calls Try.prog 51 #[.pointer (some ⟨b, 0, none⟩), .int .u64 key] w fun r w' => r = .returned (.tuple #[.int .i64 0, .bool false]) ∧ w = w' := by
  have h2 := h.c2
  have hs := g.small
  have hp := g.pos
  have hq := find_lt g.pos S key
  have H1 := hid (find_c h R g hem hemp key)
  have d0 := h.k0 _ hq
  rw [R.tk hq, ht] at d0
  generalize find n S key = q at *
  clear ht h R g hemp
  go_enter Try.func51, Try.ntmps51
  go_wp2_with (go_at_call 61; refine H1.out.mono ?_; rintro e w' ⟨rfl, rfl⟩)
  go_ret2
  exact ⟨rfl, rfl⟩

/-- What holds at the head of a round of drop's loop. -/
def DR (w0 : World) (b x ks vs most e len n : Nat) (F : Tb Value) (em : Nat) (f : Nat) (s6 s8 : Value) (wr : World) : Prop :=
  ∃ (i k : Nat) (S : Tb Value) (D : Nat → Bool × Nat × Int), s6 = .int .i64 i ∧ s8 = .int .i64 k ∧ Dst n S i k em ∧ dist n k em ≤ f ∧ dropGo n f S i k = F ∧ RefAt wr b x ks vs most e len n D ∧ Rep n D S ∧ Frm [b, x, ks, vs] w0 wr

theorem DR.move {w0 : World} {b x ks vs most e len n : Nat} {F S : Tb Value} {em f : Nat} {i k : Nat} {D : Nat → Bool × Nat × Int} {wr : World} (T : Dst n S i k em) (hd : dist n k em ≤ f + 1) (hF : dropGo n (f + 1) S i k = F)
    (hI : RefAt wr b x ks vs most e len n D) (R : Rep n D S) (hR : Frm [b, x, ks, vs] w0 wr) (hk : S k ≠ none) (hh : dist n i k ≤ dist n (home n (D k).2.1) k) (m m' : Nat) :
    DR w0 b x ks vs most e len n F em f (.int .i64 k) (.int .i64 (nx n k)) ((((((wr.setCell ⟨x, i, none⟩ (.bool true)).drewN m).setCell ⟨ks, i, none⟩ (.int .u64 (D k).2.1)).drewN m').setCell ⟨vs, i, none⟩ (.int .i64 (D k).2.2)).setCell ⟨x, k, none⟩ (.bool false)) := by
  have hke : k ≠ em := fun h => by rw [h, T.emp] at hk; exact hk rfl
  rcases R k T.lk with ⟨r1, _⟩ | ⟨r1, r2⟩
  · exact absurd r1 hk
  refine ⟨k, nx n k, upd (upd S i (S k)) k none, upd (upd D i (true, (D k).2)) k (false, (D k).2), rfl, rfl, T.move r1 hh, ?_, ?_, ?_, ?_, ?_⟩
  · rw [dist_nx T.lk T.le hke] at hd; omega
  · rw [← hF]; conv => rhs; unfold dropGo
    rw [r1]; simp only [hh, if_true]
  · have h1 := (((((hI.setIs T.li true).drewN m).setKey T.li (D k).2.1).drewN m').setVal T.li (D k).2.2).setIs T.lk false
    simp only [upd_same, upd_upd] at h1
    rw [upd_other _ _ (fun e => T.ik e.symm)] at h1
    exact h1
  · rw [r1]; exact (R.upd_some i (D k).2.1 (D k).2.2).upd_none k _
  · exact (((((hR.setCell (by simp) _).drewN m).setCell (by simp) _).drewN m').setCell (by simp) _).setCell (by simp) _

theorem DR.stay {w0 : World} {b x ks vs most e len n : Nat} {F S : Tb Value} {em f : Nat} {i k : Nat} {D : Nat → Bool × Nat × Int} {wr : World} (T : Dst n S i k em) (hd : dist n k em ≤ f + 1) (hF : dropGo n (f + 1) S i k = F)
    (hI : RefAt wr b x ks vs most e len n D) (R : Rep n D S) (hR : Frm [b, x, ks, vs] w0 wr) (hk : S k ≠ none) (hh : ¬ dist n i k ≤ dist n (home n (D k).2.1) k) :
    DR w0 b x ks vs most e len n F em f (.int .i64 i) (.int .i64 (nx n k)) wr := by
  have hke : k ≠ em := fun h => by rw [h, T.emp] at hk; exact hk rfl
  rcases R k T.lk with ⟨r1, _⟩ | ⟨r1, r2⟩
  · exact absurd r1 hk
  refine ⟨i, nx n k, S, D, rfl, rfl, T.stay r1 hh, ?_, ?_, hI, R, hR⟩
  · rw [dist_nx T.lk T.le hke] at hd; omega
  · rw [← hF]; conv => rhs; unfold dropGo
    rw [r1]; simp only [hh, if_false]

set_option maxRecDepth 100000 in
set_option maxHeartbeats 1600000 in
theorem drop_some {w : World} {b x ks vs most e len n : Nat} {D : Nat → Bool × Nat × Int} {S : Tb Value} (h : RefAt w b x ks vs most e (len + 1) n D) (R : Rep n D S) (g : Geo n e) (I : Inv n S) (hc : len < n) {em : Nat} (hem : em < n) (hemp : S em = none) (key : Nat) {v : Int}
    (ht : S (find n S key) = some (key, .int .i64 v)) :
    Calls Try.prog 51 #[.pointer (some ⟨b, 0, none⟩), .int .u64 key] w fun r w' => r = .returned (.tuple #[.int .i64 v, .bool true]) ∧ Now w b x ks vs most e len n (dropAt n S (find n S key)) w' := by
  have h2 := h.c2
  have h4 := h.c4
  have h5 := h.c5
  have hs := g.small
  have hp := g.pos
  have hq := find_lt g.pos S key
  have H1 := hid (find_c h R g hem hemp key)
  have hqe : find n S key ≠ em := fun e' => by rw [e', hemp] at ht; simp at ht
  have hT := Dst.start I hq hem hemp hqe
  generalize find n S key = q at *
  obtain ⟨s1, s2, s3⟩ := R.of_some hq ht
  simp only [Value.int.injEq, true_and] at s3
  have d0 := h.k0 _ hq
  have d2 := h.k2 _ hq
  rw [s1] at d0
  rw [← s3] at d2
  have bx := h.bx
  have fb : ∀ o, w.frozen? ⟨b, o, none⟩ = false := h.fb
  have fx : ∀ o, w.frozen? ⟨x, o, none⟩ = false := h.fx
  have hDR : DR w b x ks vs most e len n (dropAt n S q) em n (.int .i64 q) (.int .i64 (nx n q)) ((w.setCell ⟨x, q, none⟩ (.bool false)).setCell ⟨b, 5, none⟩ (.int .i64 len)) :=
    ⟨q, nx n q, upd S q none, _, rfl, rfl, hT, Nat.le_of_lt (dist_lt (nx_lt hq) hem), rfl, (h.setIs hq false).setLen len, R.upd_none q _, ((Frm.refl _ w).setCell (by simp) _).setCell (by simp) _⟩
  have HDR := hid hDR
  have hmod : ((q : Int) + 1) % (n : Int) = ((nx n q : Nat) : Int) := by rw [← nx_mod hq]; rfl
  generalize nx n q = nq at *
  clear hDR hT h I ht s1 s2 s3 R hqe
  go_enter Try.func51, Try.ntmps51
  go_wp2_with (go_at_call 61; refine H1.out.mono ?_; rintro e w' ⟨rfl, rfl⟩)
  clear H1
  have HM0 := hid hmod
  clear hmod
  go_loopg [6, 8] n (fun f s6 s8 wr => DR w b x ks vs most e len n (dropAt n S q) em f s6 s8 wr)
  case atStart => rw [HM0.out]; exact HDR.out
  case round =>
    clear HDR HM0 h2 h4 h5 d0 d2 fb fx
    obtain ⟨i, k, S', D', rfl, rfl, T, hd, hF, hI, R, hR⟩ := hrel
    have hi := T.li
    have hk := T.lk
    have hik := T.ik
    have c1 := hI.c1
    have c2 := hI.c2
    have c3 := hI.c3
    have c4 := hI.c4
    have k0 := hI.k0 k hk
    have k1 := hI.k1 k hk
    have i0 := hI.k0 i hi
    have i1 := hI.k1 i hi
    have i2 := hI.k2 i hi
    have k2 := hI.k2 k hk
    have bx := hI.bx; have bk := hI.bk; have bv := hI.bv; have xk := hI.xk; have xv := hI.xv; have kv := hI.kv
    have fx : ∀ o, wr.frozen? ⟨x, o, none⟩ = false := hI.fx
    have fk : ∀ o, wr.frozen? ⟨ks, o, none⟩ = false := hI.fk
    have fv : ∀ o, wr.frozen? ⟨vs, o, none⟩ = false := hI.fv
    by_cases hS : S' k = none
    · rw [R.of_none hk hS] at k0
      have HF : Hid (Now w b x ks vs most e len n (dropAt n S q) wr) := by
        refine ⟨hR, D', hI, ?_⟩
        have : dropGo n gk S' i k = S' := by cases gk <;> simp [dropGo, hS]
        rw [← hF, this]; exact R
      clear hI hR hF T hd R hS
      go_wp2
      go_ret2
      exact ⟨rfl, HF.out⟩
    · have hD : (D' k).1 = true := by rw [R.tk hk]; cases hx : S' k with | none => exact absurd hx hS | some _ => rfl
      rw [hD] at k0
      obtain ⟨f, rfl⟩ : ∃ f, gk = f + 1 := by
        cases gk with
        | zero => exfalso; have := T.le; have : k = em := by have := dc n k em; omega
                  rw [this, T.emp] at hS; exact hS rfl
        | succ f => exact ⟨f, rfl⟩
      have hhl := home_lt g.pos (D' k).2.1
      have HH := hid (home_c c1 g (D' k).2.1)
      have HBe := hid (behind_c wr hi hhl hk hik)
      have hmod : ((k : Int) + 1) % (n : Int) = ((nx n k : Nat) : Int) := by rw [← nx_mod hk]; rfl
      by_cases hh : dist n i k ≤ dist n (home n (D' k).2.1) k
      · have HM := hid (fun m m' => DR.move T hd hF hI R hR hS hh m m')
        rw [decide_eq_true hh] at HBe
        clear hI hR hF T hd R hS hD hh
        generalize home n (D' k).2.1 = hy at *
        generalize nx n k = nk at *
        go_wp2_with (first | (go_at_call 16; refine HH.out.mono ?_; rintro e w' ⟨rfl, rfl⟩) | (go_at_call 62; refine HBe.out.mono ?_; rintro e w' ⟨rfl, rfl⟩))
        go_region
        go_wp2
        go_region
        go_wp2
        go_roundg f
        case measure => omega
        case rel => rw [hmod]; exact HM.out _ _
      · have HM := hid (DR.stay T hd hF hI R hR hS hh)
        rw [decide_eq_false hh] at HBe
        clear hI hR hF T hd R hS hD hh
        generalize home n (D' k).2.1 = hy at *
        generalize nx n k = nk at *
        go_wp2_with (first | (go_at_call 16; refine HH.out.mono ?_; rintro e w' ⟨rfl, rfl⟩) | (go_at_call 62; refine HBe.out.mono ?_; rintro e w' ⟨rfl, rfl⟩))
        go_roundg f
        case measure => omega
        case rel => rw [hmod]; exact HM.out
end Go.Proofs.Ytcieieljgmkjmaa.Ref
