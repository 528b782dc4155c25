/- THE WALK over the document's All: the keys and the values, by key. -/
import Derived.Test.YtcieieljgmkjmaaRefA
import Derived.Test.YtcieieljgmkjmaaIdxE
import Derived.OwnWalk
import Derived.Laws.OwnMore
set_option linter.unusedVariables false
namespace Go.Proofs.Ytcieieljgmkjmaa.Ref
open Go.RowKit Winnow
open IdxI (entsTo Sorted cells_new entsTo_le)

def kxs (L : List (Nat × Int)) : List Value := L.map fun p => .int .u64 p.1
def vxs (L : List (Nat × Int)) : List Value := L.map fun p => .int .i64 p.2
theorem kxs_len (L : List (Nat × Int)) : (kxs L).length = L.length := by simp [kxs]
theorem vxs_len (L : List (Nat × Int)) : (vxs L).length = L.length := by simp [vxs]

theorem own_ne {w : World} {b b' : Nat} {e e' : TypeId} {z z' : Nat} {v v' : Value} {n n' : Nat} {xs xs' : List Value} (h : w.ownsRow b e z v n xs) (h' : w.ownsRow b' e' z' v' n' xs') (hne : e ≠ e') : v.ownBlock = none ∨ v.ownBlock ≠ v'.ownBlock := by
  rcases h.2 with ⟨rfl, _⟩ | ⟨g, cap, cur, rfl, _, hg, _⟩
  · exact .inl rfl
  · right
    rcases h'.2 with ⟨rfl, _⟩ | ⟨g', cap', cur', rfl, _, hg', _⟩
    · simp [Value.ownBlock]
    · simp only [Value.ownBlock, ne_eq, Option.some.injEq]
      intro e1; subst e1; rw [hg] at hg'; simp at hg'; exact hne hg'.2

theorem own_form {w : World} {b : Nat} {e : TypeId} {z : Nat} {v : Value} {n : Nat} {xs : List Value} (h : w.ownsRow b e z v n xs) : ∃ a cap, v = .slice a n cap ∧ (n ≠ 0 → ∃ g, a = some ⟨g, 0, none⟩) := by
  rcases h.2 with ⟨rfl, h0⟩ | ⟨g, cap, cur, rfl, _⟩
  · subst h0; exact ⟨none, 0, rfl, fun h => absurd rfl h⟩
  · exact ⟨some ⟨g, 0, none⟩, cap, rfl, fun _ => ⟨g, rfl⟩⟩

/-- A row on its way: what stood from k on has been moved up by one. -/
def shf {α : Type} (l : List α) (m k : Nat) : List α := l.take (k + 1) ++ (l.drop k).take (m - k)
theorem shf_start {α : Type} (l : List α) {m : Nat} (h : l.length = m + 1) : shf l m m = l := by
  unfold shf; rw [Nat.sub_self, List.take_zero, List.append_nil, List.take_of_length_le (by omega)]
theorem shf_get {α : Type} (l : List α) {m k : Nat} (h : l.length = m + 1) (hk : k ≤ m) (j : Nat) : (shf l m k)[j]? = if j ≤ k then l[j]? else if j ≤ m then l[j - 1]? else none := by
  unfold shf
  by_cases h1 : j ≤ k
  · rw [if_pos h1, List.getElem?_append_left (by simp; omega), List.getElem?_take, if_pos (by omega)]
  · rw [if_neg h1, List.getElem?_append_right (by simp; omega)]
    simp only [List.length_take, List.getElem?_take, List.getElem?_drop]
    have e : min (k + 1) l.length = k + 1 := by omega
    rw [e]
    by_cases h2 : j ≤ m
    · rw [if_pos h2, if_pos (by omega), show k + (j - (k + 1)) = j - 1 from by omega]
    · rw [if_neg h2, if_neg (by omega)]
theorem shf_step {α : Type} (l : List α) {m k : Nat} (h : l.length = m + 1) (hk : k + 1 ≤ m) {x : α} (hx : l[k]? = some x) : (shf l m (k + 1)).set (k + 1) x = shf l m k := by
  apply List.ext_getElem?
  intro j
  have hlen : (shf l m (k + 1)).length = m + 1 := by unfold shf; simp; omega
  rw [List.getElem?_set, shf_get l h (by omega), shf_get l h (by omega)]
  by_cases e : k + 1 = j
  · subst e
    rw [if_pos rfl, if_pos (by omega), if_neg (by omega), if_pos (by omega), Nat.add_sub_cancel, hx]
  · rw [if_neg e]
    by_cases h1 : j ≤ k
    · rw [if_pos (by omega), if_pos h1]
    · rw [if_neg (by omega), if_neg h1]
theorem shf_end {α : Type} (L : List α) (z x : α) {k : Nat} (hk : k ≤ L.length) : (shf (L ++ [z]) L.length k).set k x = L.take k ++ x :: L.drop k := by
  apply List.ext_getElem?
  intro j
  have hl : (L ++ [z]).length = L.length + 1 := by simp
  have hlen : (shf (L ++ [z]) L.length k).length = L.length + 1 := by unfold shf; simp; omega
  rw [List.getElem?_set, shf_get _ hl hk]
  by_cases e : k = j
  · subst e
    rw [if_pos rfl, if_pos (by omega), List.getElem?_append_right (by simp; omega)]
    simp [Nat.min_eq_left hk]
  · rw [if_neg e]
    by_cases h1 : j ≤ k
    · rw [if_pos h1, List.getElem?_append_left (by omega), List.getElem?_append_left (by simp; omega), List.getElem?_take, if_pos (by omega)]
    · have hlt : (L.take k).length = k := by rw [List.length_take]; omega
      have hr : (L.take k ++ x :: L.drop k)[j]? = (x :: L.drop k)[j - k]? := by rw [List.getElem?_append_right (by rw [hlt]; omega), hlt]
      rw [if_neg h1, hr]
      rw [show j - k = (j - 1 - k) + 1 from by omega, List.getElem?_cons_succ, List.getElem?_drop, show k + (j - 1 - k) = j - 1 from by omega]
      by_cases h2 : j ≤ L.length
      · rw [if_pos h2, List.getElem?_append_left (by omega)]
      · rw [if_neg h2, List.getElem?_eq_none (by omega)]

/-- A pair laid at its place. -/
theorem ins_perm {α : Type} (L : List α) (x : α) (k : Nat) : (L.take k ++ x :: L.drop k).Perm (L ++ [x]) := by
  refine (List.perm_middle).trans ?_
  rw [List.take_append_drop]
  exact (List.perm_append_singleton x L).symm
theorem ins_sorted (L : List (Nat × Int)) (x : Nat × Int) (k : Nat) (hk : k ≤ L.length) (hs : L.Pairwise (fun a b => a.1 ≤ b.1)) (hlo : ∀ j (hj : j < L.length), k ≤ j → x.1 < L[j].1) (hhi : k = 0 ∨ ∃ h : k - 1 < L.length, L[k - 1].1 ≤ x.1) :
    (L.take k ++ x :: L.drop k).Pairwise (fun a b => a.1 ≤ b.1) := by
  rw [List.pairwise_append]
  refine ⟨hs.sublist (List.take_sublist _ _), ?_, ?_⟩
  · rw [List.pairwise_cons]
    refine ⟨fun y hy => ?_, hs.sublist (List.drop_sublist _ _)⟩
    obtain ⟨j, hj, rfl⟩ := List.getElem_of_mem hy
    rw [List.getElem_drop]
    exact Nat.le_of_lt (hlo _ _ (by omega))
  · intro a ha b hb
    obtain ⟨i, hi, rfl⟩ := List.getElem_of_mem ha
    rw [List.getElem_take]
    rw [List.length_take] at hi
    have hle : L[i].1 ≤ x.1 := by
      rcases hhi with h | ⟨h, h'⟩
      · omega
      · by_cases e : i = k - 1
        · subst e; exact h'
        · exact Nat.le_trans ((List.pairwise_iff_getElem.1 hs) i (k - 1) (by omega) h (by omega)) h'
    rcases List.mem_cons.1 hb with rfl | hb
    · exact hle
    · obtain ⟨j, hj, rfl⟩ := List.getElem_of_mem hb
      rw [List.getElem_drop]
      rw [List.length_drop] at hj
      exact Nat.le_trans hle (Nat.le_of_lt (hlo _ _ (by omega)))

theorem kxs_ins (L : List (Nat × Int)) (x : Nat × Int) (p : Nat) : kxs (L.take p ++ x :: L.drop p) = (kxs L).take p ++ (.int .u64 x.1) :: (kxs L).drop p := by simp [kxs, List.map_take, List.map_drop]
theorem vxs_ins (L : List (Nat × Int)) (x : Nat × Int) (p : Nat) : vxs (L.take p ++ x :: L.drop p) = (vxs L).take p ++ (.int .i64 x.2) :: (vxs L).drop p := by simp [vxs, List.map_take, List.map_drop]
theorem own_set_other {w : World} {b : Nat} {e : TypeId} {z : Nat} {v : Value} {n : Nat} {xs : List Value} (h : w.ownsRow b e z v n xs) {g o : Nat} (hne : v.ownBlock ≠ some g) (u : Value) : (w.setCell ⟨g, o, none⟩ u).ownsRow b e z v n xs :=
  h.kept ⟨rfl, rfl, rfl, by simp [World.setCell], fun k _ hk => Below.heap_setCell _ _ _ _ (fun e => hk (by rw [e]))⟩ (.inr hne)

theorem append_step {wz w1 : World} {B : Nat} {e e' : TypeId} {z z' : Nat} {v v' : Value} {n n' : Nat} {xs ys : List Value} {o : Obj} (h : wz.ownsRow B e z v n xs) (h' : wz.ownsRow B e' z' v' n' ys) (hne : e' ≠ e) (hs : B ≤ wz.heap.size)
    (hg : (wz.alloc o).grownBy w1 v.ownBlock) : w1.ownsRow B e' z' v' n' ys ∧ Below B wz w1 ∧ wz.heap.size + 1 ≤ w1.heap.size := by
  have hs1 := hg.size
  rw [alloc_size] at hs1
  exact ⟨(h'.alloc o).kept hg (own_ne h' h hne), ((Below.refl B wz).alloc hs _).grown hg (by rw [alloc_size]; omega) (fun j ej => (h.lt j ej).1), hs1⟩

/-- What the document's All hands back. -/
def AllAt (w : World) (S : Tb Value) (n : Nat) (r : Ending) (w' : World) : Prop :=
  ∃ L kv vv, Sorted S n L ∧ r = .returned (.tuple #[kv, vv]) ∧ w'.ownsRow w.heap.size 30 1 kv L.length (kxs L) ∧ w'.ownsRow w.heap.size 3 1 vv L.length (vxs L) ∧ Below w.heap.size w w'

/-- What holds at the head of a round. -/
def AR (w : World) (S : Tb Value) (n : Nat) (f : Nat) (s4 s5 s6 : Value) (wr : World) : Prop :=
  ∃ (i : Nat) (L : List (Nat × Int)), s6 = .int .i64 i ∧ i + f = n ∧ L.Perm (entsTo S i) ∧ L.Pairwise (fun a b => a.1 ≤ b.1) ∧ wr.ownsRow w.heap.size 30 1 s4 L.length (kxs L) ∧ wr.ownsRow w.heap.size 3 1 s5 L.length (vxs L) ∧ Below w.heap.size w wr

set_option maxRecDepth 100000 in
set_option maxHeartbeats 2000000 in
theorem all_c {w : World} {b x ks vs most e len n : Nat} {D : Nat → Bool × Nat × Int} {S : Tb Value} (h : RefAt w b x ks vs most e len n D) (R : Rep n D S) (g : Geo n e) :
    Calls Try.prog 53 #[.pointer (some ⟨b, 0, none⟩)] w (AllAt w S n) := by
  obtain ⟨i0, hi, hz0, hz1, hz2⟩ := info_parts (show (Try.prog.info? 30).map (fun i => (i.zero, i.size, i.bytes)) = some (some (.int .u64 0), 1, 8) by kernel_rfl)
  obtain ⟨j0, hj, hy0, hy1, hy2⟩ := info_parts (show (Try.prog.info? 3).map (fun i => (i.zero, i.size, i.bytes)) = some (some (.int .i64 0), 1, 8) by kernel_rfl)
  have hsm : n ≤ 1099511627776 := g.small
  have hlb := h.lb
  have hlx := h.lx
  have hlk := h.lk
  have hlv := h.lv
  have HI := hid h
  have HR := hid R
  clear h R g
  go_enter Try.func53, Try.ntmps53
  go_wp2
  go_loopg [4, 5, 6] n (fun f s4 s5 s6 wr => AR w S n f s4 s5 s6 wr)
  case atStart => exact ⟨0, [], rfl, by omega, .nil, .nil, World.ownsRow_nil .., World.ownsRow_nil .., Below.refl _ _⟩
  case round =>
    obtain ⟨gk0, rfl⟩ : ∃ g0, g0 = gk := ⟨_, rfl⟩
    obtain ⟨i, L, rfl, hif, hperm, hsort, hok, hov, hB⟩ := hrel
    have hIr : RefAt wr b x ks vs most e len n D := HI.out.of_blocks (hB.block b hlb) (hB.block x hlx) (hB.block ks hlk) (hB.block vs hlv)
    have c2 := hIr.c2
    have c3 := hIr.c3
    have c4 := hIr.c4
    have hLl : L.length ≤ i := by rw [hperm.length_eq]; exact entsTo_le S i
    by_cases hlt : i < n
    · have k0 := hIr.k0 i hlt
      have k1 := hIr.k1 i hlt
      have k2 := hIr.k2 i hlt
      rcases HR.out i hlt with ⟨r1, r2⟩ | ⟨r1, r2⟩
      · rw [r2] at k0
        have HF : Hid (AR w S n (gk0 - 1) u4 u5 (.int .i64 ((i : Int) + 1)) wr) := hid ⟨i + 1, L, by go_num, by omega, by simp only [entsTo, r1, List.append_nil]; exact hperm, hsort, hok, hov, hB⟩
        clear hperm hsort hok hov hB hIr r1 r2
        go_wp2
        go_roundg (gk0 - 1)
        case measure => omega
        case rel => exact HF.out
      · rw [r2] at k0
        have he : (entsTo S (i + 1)) = entsTo S i ++ [((D i).2.1, (D i).2.2)] := by simp only [entsTo, r1]
        obtain ⟨ka, kc, rfl, hka⟩ := own_form hok
        generalize hkey : (D i).2.1 = key at *
        generalize hval : (D i).2.2 = vl at *
        have HE := hid he
        have HP := hid hperm
        have HS := hid hsort
        have HOK := hid hok
        have HOV := hid hov
        have HB := hid hB
        have HKA := hid hka
        have HKE := hid hkey
        have HVE := hid hval
        clear hperm hsort hok hov hB hIr r1 r2 he hka hkey hval
        go_wp2_with fail
        obtain ⟨wo, rfl⟩ : ∃ wo : World, wo = wr := ⟨_, rfl⟩
        have hso : w.heap.size ≤ wo.heap.size := HB.out.size
        -- the place is looked for
        go_loopg [7] L.length (fun f s7 wq => ∃ (p q : Nat), s7 = .int .i64 p ∧ p ≤ L.length ∧ f = p ∧ Hid (wq = wo.drewN q) ∧ Hid (∀ j (hj : j < L.length), p ≤ j → key < L[j].1))
        case atStart => exact ⟨L.length, 0, rfl, Nat.le_refl _, rfl, rfl, fun j hj h => absurd hj (by omega)⟩
        case round =>
          obtain ⟨p, q, rfl, hp, hf, hq, hlo⟩ := hrel
          have c2r : wr.cell? ⟨b, 2, none⟩ = some (.slice (some ⟨x, 0, none⟩) n n) := by rw [hq.out]; exact c2
          have c3r : wr.cell? ⟨b, 3, none⟩ = some (.slice (some ⟨ks, 0, none⟩) n n) := by rw [hq.out]; exact c3
          have c4r : wr.cell? ⟨b, 4, none⟩ = some (.slice (some ⟨vs, 0, none⟩) n n) := by rw [hq.out]; exact c4
          have k1r : wr.cell? ⟨ks, i, none⟩ = some (.int .u64 key) := by rw [hq.out]; exact k1
          have k2r : wr.cell? ⟨vs, i, none⟩ = some (.int .i64 vl) := by rw [hq.out]; exact k2
          have HOKr : Hid (wr.ownsRow w.heap.size 30 1 (.slice ka L.length kc) L.length (kxs L)) := by rw [hq.out]; exact HOK
          have HOVr : Hid (wr.ownsRow w.heap.size 3 1 u5 L.length (vxs L)) := by rw [hq.out]; exact HOV
          have HBr : Hid (Below w.heap.size w wr) := by rw [hq.out]; exact HB.out.trans (below_dn _ _ _)
          have hszr : w.heap.size ≤ wr.heap.size := HBr.out.size
          have C3 := hid (show L.length + 1 ≤ maxLen by unfold maxLen; omega)
          have C4 := hid (show (L.length + 1) * 8 ≤ 140737488355328 by omega)
          clear c2 c3 c4 k0 k1 k2
          by_cases hp0 : p = 0
          · have HI2 : Hid (p = 0 ∨ ∃ h : p - 1 < L.length, L[p - 1].1 ≤ key) := hid (.inl hp0)
            have hd0 : decide ((0 : Int) < (p : Int)) = false := by simp; omega
            have hd1 : decide (0 < p) = false := by simp; omega
            have HP0 := hid hp0
            clear hp0
            go_wp2
            go_quiet (fail)
            obtain ⟨wz, hwz⟩ : ∃ wz, wz = wr.drewN nq := ⟨_, rfl⟩
            rw [← hwz]
            have c2z : wz.cell? ⟨b, 2, none⟩ = some (.slice (some ⟨x, 0, none⟩) n n) := by rw [hwz]; exact c2r
            have c3z : wz.cell? ⟨b, 3, none⟩ = some (.slice (some ⟨ks, 0, none⟩) n n) := by rw [hwz]; exact c3r
            have c4z : wz.cell? ⟨b, 4, none⟩ = some (.slice (some ⟨vs, 0, none⟩) n n) := by rw [hwz]; exact c4r
            have k1z : wz.cell? ⟨ks, i, none⟩ = some (.int .u64 key) := by rw [hwz]; exact k1r
            have k2z : wz.cell? ⟨vs, i, none⟩ = some (.int .i64 vl) := by rw [hwz]; exact k2r
            have HOKz : Hid (wz.ownsRow w.heap.size 30 1 (.slice ka L.length kc) L.length (kxs L)) := by rw [hwz]; exact HOKr
            have HOVz : Hid (wz.ownsRow w.heap.size 3 1 u5 L.length (vxs L)) := by rw [hwz]; exact HOVr
            have HBz : Hid (Below w.heap.size w wz) := by rw [hwz]; exact HBr.out.trans (below_dn _ _ _)
            have hszz : w.heap.size ≤ wz.heap.size := HBz.out.size
            clear hwz c2r c3r c4r k1r k2r HOKr HOVr HBr hszr hq HOK HOV HKA
            go_wp2_with (first
              | (at_builtin; refine wpList_append_own _ rfl _ _ 23 rfl w.heap.size 30 i0 (.int .u64 0) 1 8 Try.underlying23 hi hz0 hz1 hz2 rfl (by decide) _ _ _ rfl (HOKz.out.alloc _) ⟨wz.heap.size, 0, none⟩ 1 1 [.int .u64 0] rfl rfl (cells_new _ [.int .u64 0] _ _ rfl) (by intro u hu; simp at hu; subst hu; rfl) C3.out C4.out (by simp; omega) ?_; intro v1 w1 hown1 hgrow1 hnil1; obtain ⟨hx1, hx2, hs1⟩ := append_step HOKz.out HOVz.out (by decide) hszz hgrow1; have HV1 := hid hx1; have HK1 := hid hown1; have HB1 := hid hx2; obtain ⟨g1, cap1, rfl⟩ := ownsRow_succ hown1; clear hown1 hgrow1 hnil1 hx1 hx2)
              | (at_builtin; refine wpList_append_own _ rfl _ _ 36 rfl w.heap.size 3 j0 (.int .i64 0) 1 8 Try.underlying36 hj hy0 hy1 hy2 rfl (by decide) _ _ _ rfl (HV1.out.alloc _) ⟨w1.heap.size, 0, none⟩ 1 1 [.int .i64 0] rfl rfl (cells_new _ [.int .i64 0] _ _ rfl) (by intro u hu; simp at hu; subst hu; rfl) C3.out C4.out (by simp; omega) ?_; intro v2 w2 hown2 hgrow2 hnil2; obtain ⟨hx1, hx2, hs2⟩ := append_step HV1.out HK1.out (by decide) (by omega) hgrow2; have HK2 := hid hx1; have HV2 := hid hown2; have HB2 := hid hx2; obtain ⟨g2, cap2, rfl⟩ := ownsRow_succ hown2; clear hown2 hgrow2 hnil2 hx1 hx2))
            have hg12 : g1 ≠ g2 := by
              have := own_ne HK2.out HV2.out (by decide)
              simp only [Value.ownBlock, ne_eq, Option.some.injEq] at this
              rcases this with h | h
              · simp at h
              · exact h
            have HBB : Hid (Below w.heap.size w w2) := hid (HBz.out.trans (HB1.out.trans HB2.out))
            have hws2 : w.heap.size ≤ w2.heap.size := HBB.out.size
            obtain ⟨m, hm⟩ : ∃ m, m = L.length := ⟨_, rfl⟩
            rw [← hm] at hp hLl HK2 HV2 ⊢
            have hgl1 := hid (HK2.out.lt g1 rfl).1
            have hgl2 := hid (HV2.out.lt g2 rfl).1
            have HM := hid hm
            clear hm HB1 HB2 HV1 HK1 hs1 hs2 C3 C4 HOKz HOVz
            go_wp2_with fail
            go_loopg [8] m (fun f s8 wy => ∃ k : Nat, s8 = .int .i64 k ∧ p ≤ k ∧ k ≤ m ∧ f = k ∧ Hid (wy.ownsRow w.heap.size 30 1 (.slice (some ⟨g1, 0, none⟩) (m + 1) cap1) (m + 1) (shf (kxs L ++ [.int .u64 0]) m k)) ∧ Hid (wy.ownsRow w.heap.size 3 1 (.slice (some ⟨g2, 0, none⟩) (m + 1) cap2) (m + 1) (shf (vxs L ++ [.int .i64 0]) m k)) ∧ Hid (Below w.heap.size w wy))
            case atStart => exact ⟨m, by go_num, hp, Nat.le_refl _, rfl, hid (by rw [shf_start _ (by simp [kxs_len, HM.out])]; exact HK2.out), hid (by rw [shf_start _ (by simp [vxs_len, HM.out])]; exact HV2.out), HBB⟩
            case round =>
              obtain ⟨k, rfl, hpk, hkm, hf2, HKy, HVy, HBy⟩ := hrel
              have hsy : w.heap.size ≤ wr.heap.size := HBy.out.size
              have hgl1' := hgl1.out
              have hgl2' := hgl2.out
              have fk : ∀ o, wr.frozen? ⟨g1, o, none⟩ = false := fun o => HKy.out.frozenAt o
              have fv : ∀ o, wr.frozen? ⟨g2, o, none⟩ = false := fun o => HVy.out.frozenAt o
              have hlk1 : (kxs L ++ [Value.int .u64 0]).length = m + 1 := by simp [kxs_len, HM.out]
              have hlv1 : (vxs L ++ [Value.int .i64 0]).length = m + 1 := by simp [vxs_len, HM.out]
              by_cases hlt2 : p < k
              · obtain ⟨k', rfl⟩ : ∃ k', k = k' + 1 := ⟨k - 1, by omega⟩
                have hkL : k' < L.length := by have := HM.out; omega
                have e1 : (kxs L ++ [Value.int .u64 0])[k']? = some (.int .u64 L[k'].1) := by rw [List.getElem?_append_left (by rw [kxs_len]; exact hkL)]; simp [kxs, hkL]
                have e2 : (vxs L ++ [Value.int .i64 0])[k']? = some (.int .i64 L[k'].2) := by rw [List.getElem?_append_left (by rw [vxs_len]; exact hkL)]; simp [vxs, hkL]
                have d1 : wr.cell? ⟨g1, k', none⟩ = some (.int .u64 L[k'].1) := by rw [HKy.out.cellAt k' (by omega), shf_get _ hlk1 (by omega), if_pos (by omega)]; exact e1
                have d2 : wr.cell? ⟨g2, k', none⟩ = some (.int .i64 L[k'].2) := by rw [HVy.out.cellAt k' (by omega), shf_get _ hlv1 (by omega), if_pos (by omega)]; exact e2
                obtain ⟨o1, d3⟩ : ∃ u, wr.cell? ⟨g1, k' + 1, none⟩ = some u := by rw [HKy.out.cellAt (k' + 1) (by omega), shf_get _ hlk1 (by omega), if_pos (by omega)]; exact ⟨_, List.getElem?_eq_getElem (by omega)⟩
                obtain ⟨o2, d4⟩ : ∃ u, wr.cell? ⟨g2, k' + 1, none⟩ = some u := by rw [HVy.out.cellAt (k' + 1) (by omega), shf_get _ hlv1 (by omega), if_pos (by omega)]; exact ⟨_, List.getElem?_eq_getElem (by omega)⟩
                have N1 : Hid (((wr.setCell ⟨g1, k' + 1, none⟩ (.int .u64 L[k'].1)).setCell ⟨g2, k' + 1, none⟩ (.int .i64 L[k'].2)).ownsRow w.heap.size 30 1 (.slice (some ⟨g1, 0, none⟩) (m + 1) cap1) (m + 1) (shf (kxs L ++ [.int .u64 0]) m k')) := by
                  have := own_set_other (HKy.out.stored (k' + 1) (.int .u64 L[k'].1)).1 (g := g2) (o := k' + 1) (by simp only [Value.ownBlock, ne_eq, Option.some.injEq]; exact hg12) (.int .i64 L[k'].2)
                  rw [shf_step _ hlk1 (by omega) e1] at this
                  exact this
                have N2 : Hid (((wr.setCell ⟨g1, k' + 1, none⟩ (.int .u64 L[k'].1)).setCell ⟨g2, k' + 1, none⟩ (.int .i64 L[k'].2)).ownsRow w.heap.size 3 1 (.slice (some ⟨g2, 0, none⟩) (m + 1) cap2) (m + 1) (shf (vxs L ++ [.int .i64 0]) m k')) := by
                  have := (own_set_other HVy.out (g := g1) (o := k' + 1) (by simp only [Value.ownBlock, ne_eq, Option.some.injEq]; exact fun e => hg12 e.symm) (.int .u64 L[k'].1)).stored (k' + 1) (.int .i64 L[k'].2)
                  replace this := this.1
                  rw [shf_step _ hlv1 (by omega) e2] at this
                  exact this
                have N3 : Hid (Below w.heap.size w ((wr.setCell ⟨g1, k' + 1, none⟩ (.int .u64 L[k'].1)).setCell ⟨g2, k' + 1, none⟩ (.int .i64 L[k'].2))) := (HBy.out.setCell (p := ⟨g1, k' + 1, none⟩) hgl1' _).setCell (p := ⟨g2, k' + 1, none⟩) hgl2' _
                clear e1 e2 hlk1 hlv1 HKy HVy HBy
                generalize L[k'].1 = y1 at *
                generalize L[k'].2 = y2 at *
                go_wp2
                go_roundg k'
                case measure => omega
                case rel => exact ⟨k', by go_num, by omega, by omega, rfl, N1, N2, N3⟩
              · obtain rfl : k = p := by omega
                have hIy : RefAt wr b x ks vs most e len n D := HI.out.of_blocks (HBy.out.block b hlb) (HBy.out.block x hlx) (HBy.out.block ks hlk) (HBy.out.block vs hlv)
                have c3y := hIy.c3
                have c4y := hIy.c4
                have k1y := hIy.k1 i hlt
                have k2y := hIy.k2 i hlt
                rw [HKE.out] at k1y
                rw [HVE.out] at k2y
                obtain ⟨o1, d3⟩ : ∃ u, wr.cell? ⟨g1, k, none⟩ = some u := by rw [HKy.out.cellAt k (by omega), shf_get _ hlk1 (by omega), if_pos (by omega)]; exact ⟨_, List.getElem?_eq_getElem (by omega)⟩
                obtain ⟨o2, d4⟩ : ∃ u, wr.cell? ⟨g2, k, none⟩ = some u := by rw [HVy.out.cellAt k (by omega), shf_get _ hlv1 (by omega), if_pos (by omega)]; exact ⟨_, List.getElem?_eq_getElem (by omega)⟩
                have hml := HM.out
                have hlen : (L.take k ++ (key, vl) :: L.drop k).length = m + 1 := by simp; omega
                have HF : Hid (AR w S n (gk0 - 1) (.slice (some ⟨g1, 0, none⟩) (m + 1) cap1) (.slice (some ⟨g2, 0, none⟩) (m + 1) cap2) (.int .i64 ((i : Int) + 1)) ((wr.setCell ⟨g1, k, none⟩ (.int .u64 key)).setCell ⟨g2, k, none⟩ (.int .i64 vl))) := by
                  refine hid ⟨i + 1, L.take k ++ (key, vl) :: L.drop k, by go_num, by omega, ?_, ?_, ?_, ?_, ?_⟩
                  · rw [HE.out]; exact (ins_perm L (key, vl) k).trans (HP.out.append_right _)
                  · exact ins_sorted L (key, vl) k (by omega) HS.out (fun j hj hkj => hlo.out j hj hkj) HI2.out
                  · rw [hlen, kxs_ins]
                    have := own_set_other (HKy.out.stored k (.int .u64 key)).1 (g := g2) (o := k) (by simp only [Value.ownBlock, ne_eq, Option.some.injEq]; exact hg12) (.int .i64 vl)
                    rw [show m = (kxs L).length from by rw [kxs_len]; exact hml, shf_end _ _ _ (by rw [kxs_len]; omega), kxs_len, ← hml] at this
                    exact this
                  · rw [hlen, vxs_ins]
                    have := ((own_set_other HVy.out (g := g1) (o := k) (by simp only [Value.ownBlock, ne_eq, Option.some.injEq]; exact fun e => hg12 e.symm) (.int .u64 key)).stored k (.int .i64 vl)).1
                    rw [show m = (vxs L).length from by rw [vxs_len]; exact hml, shf_end _ _ _ (by rw [vxs_len]; omega), vxs_len, ← hml] at this
                    exact this
                  · exact (HBy.out.setCell (p := ⟨g1, k, none⟩) hgl1' _).setCell (p := ⟨g2, k, none⟩) hgl2' _
                clear hIy HKy HVy HBy hlk1 hlv1 hlen
                go_wp2
                go_roundg (gk0 - 1)
                case measure => omega
                case rel => exact HF.out
          · obtain ⟨p', rfl⟩ : ∃ p', p = p' + 1 := ⟨p - 1, by omega⟩
            have hpL : p' < L.length := by omega
            obtain ⟨gg, rfl⟩ := HKA.out (by omega)
            have hd0 : (0 : Int) < ((p' + 1 : Nat) : Int) := by omega
            have kp : wr.cell? ⟨gg, p', none⟩ = some (.int .u64 L[p'].1) := by rw [HOKr.out.cellAt p' (by omega)]; simp [kxs, hpL]
            by_cases hky : key < L[p'].1
            · have HLO2 : Hid (∀ j (hj : j < L.length), p' ≤ j → key < L[j].1) := hid (fun j hj h => by
                by_cases e : j = p'
                · subst e; exact hky
                · exact hlo.out j hj (by omega))
              have ht : decide ((key : Int) < (L[p'].1 : Int)) = true := by simpa using hky
              have ht' : decide (key < L[p'].1) = true := by simpa using hky
              generalize L[p'].1 = lk at *
              clear hky
              go_wp2
              go_quiet (fail)
              go_wp2
              go_roundg p'
              case measure => omega
              case rel => exact ⟨p', q + nq, by go_num, by omega, rfl, by rw [hq.out]; exact World.drewN_drewN _ _ _, HLO2⟩
            · have ht : decide ((key : Int) < (L[p'].1 : Int)) = false := by simp; omega
              have ht' : decide (key < L[p'].1) = false := by simp; omega
              have HI2 : Hid (p' + 1 = 0 ∨ ∃ h : p' + 1 - 1 < L.length, L[p' + 1 - 1].1 ≤ key) := hid (.inr ⟨by omega, by simpa using hky⟩)
              clear hky
              generalize L[p'].1 = lk at *
              go_wp2
              go_quiet (fail)
              obtain ⟨wz, hwz⟩ : ∃ wz, wz = wr.drewN nq := ⟨_, rfl⟩
              rw [← hwz]
              have c2z : wz.cell? ⟨b, 2, none⟩ = some (.slice (some ⟨x, 0, none⟩) n n) := by rw [hwz]; exact c2r
              have c3z : wz.cell? ⟨b, 3, none⟩ = some (.slice (some ⟨ks, 0, none⟩) n n) := by rw [hwz]; exact c3r
              have c4z : wz.cell? ⟨b, 4, none⟩ = some (.slice (some ⟨vs, 0, none⟩) n n) := by rw [hwz]; exact c4r
              have k1z : wz.cell? ⟨ks, i, none⟩ = some (.int .u64 key) := by rw [hwz]; exact k1r
              have k2z : wz.cell? ⟨vs, i, none⟩ = some (.int .i64 vl) := by rw [hwz]; exact k2r
              have HOKz : Hid (wz.ownsRow w.heap.size 30 1 (.slice (some ⟨gg, 0, none⟩) L.length kc) L.length (kxs L)) := by rw [hwz]; exact HOKr
              have HOVz : Hid (wz.ownsRow w.heap.size 3 1 u5 L.length (vxs L)) := by rw [hwz]; exact HOVr
              have HBz : Hid (Below w.heap.size w wz) := by rw [hwz]; exact HBr.out.trans (below_dn _ _ _)
              have hszz : w.heap.size ≤ wz.heap.size := HBz.out.size
              clear hwz c2r c3r c4r k1r k2r HOKr HOVr HBr hszr hq HOK HOV HKA
              go_wp2_with (first
                | (at_builtin; refine wpList_append_own _ rfl _ _ 23 rfl w.heap.size 30 i0 (.int .u64 0) 1 8 Try.underlying23 hi hz0 hz1 hz2 rfl (by decide) _ _ _ rfl (HOKz.out.alloc _) ⟨wz.heap.size, 0, none⟩ 1 1 [.int .u64 0] rfl rfl (cells_new _ [.int .u64 0] _ _ rfl) (by intro u hu; simp at hu; subst hu; rfl) C3.out C4.out (by simp; omega) ?_; intro v1 w1 hown1 hgrow1 hnil1; obtain ⟨hx1, hx2, hs1⟩ := append_step HOKz.out HOVz.out (by decide) hszz hgrow1; have HV1 := hid hx1; have HK1 := hid hown1; have HB1 := hid hx2; obtain ⟨g1, cap1, rfl⟩ := ownsRow_succ hown1; clear hown1 hgrow1 hnil1 hx1 hx2)
                | (at_builtin; refine wpList_append_own _ rfl _ _ 36 rfl w.heap.size 3 j0 (.int .i64 0) 1 8 Try.underlying36 hj hy0 hy1 hy2 rfl (by decide) _ _ _ rfl (HV1.out.alloc _) ⟨w1.heap.size, 0, none⟩ 1 1 [.int .i64 0] rfl rfl (cells_new _ [.int .i64 0] _ _ rfl) (by intro u hu; simp at hu; subst hu; rfl) C3.out C4.out (by simp; omega) ?_; intro v2 w2 hown2 hgrow2 hnil2; obtain ⟨hx1, hx2, hs2⟩ := append_step HV1.out HK1.out (by decide) (by omega) hgrow2; have HK2 := hid hx1; have HV2 := hid hown2; have HB2 := hid hx2; obtain ⟨g2, cap2, rfl⟩ := ownsRow_succ hown2; clear hown2 hgrow2 hnil2 hx1 hx2))
              have hg12 : g1 ≠ g2 := by
                have := own_ne HK2.out HV2.out (by decide)
                simp only [Value.ownBlock, ne_eq, Option.some.injEq] at this
                rcases this with h | h
                · simp at h
                · exact h
              have HBB : Hid (Below w.heap.size w w2) := hid (HBz.out.trans (HB1.out.trans HB2.out))
              have hws2 : w.heap.size ≤ w2.heap.size := HBB.out.size
              obtain ⟨m, hm⟩ : ∃ m, m = L.length := ⟨_, rfl⟩
              rw [← hm] at hp hLl HK2 HV2 ⊢
              have hgl1 := hid (HK2.out.lt g1 rfl).1
              have hgl2 := hid (HV2.out.lt g2 rfl).1
              have HM := hid hm
              clear hm HB1 HB2 HV1 HK1 hs1 hs2 C3 C4 HOKz HOVz
              go_wp2_with fail
              go_loopg [8] m (fun f s8 wy => ∃ k : Nat, s8 = .int .i64 k ∧ p' + 1 ≤ k ∧ k ≤ m ∧ f = k ∧ Hid (wy.ownsRow w.heap.size 30 1 (.slice (some ⟨g1, 0, none⟩) (m + 1) cap1) (m + 1) (shf (kxs L ++ [.int .u64 0]) m k)) ∧ Hid (wy.ownsRow w.heap.size 3 1 (.slice (some ⟨g2, 0, none⟩) (m + 1) cap2) (m + 1) (shf (vxs L ++ [.int .i64 0]) m k)) ∧ Hid (Below w.heap.size w wy))
              case atStart => exact ⟨m, by go_num, hp, Nat.le_refl _, rfl, hid (by rw [shf_start _ (by simp [kxs_len, HM.out])]; exact HK2.out), hid (by rw [shf_start _ (by simp [vxs_len, HM.out])]; exact HV2.out), HBB⟩
              case round =>
                obtain ⟨k, rfl, hpk, hkm, hf2, HKy, HVy, HBy⟩ := hrel
                have hsy : w.heap.size ≤ wr.heap.size := HBy.out.size
                have hgl1' := hgl1.out
                have hgl2' := hgl2.out
                have fk : ∀ o, wr.frozen? ⟨g1, o, none⟩ = false := fun o => HKy.out.frozenAt o
                have fv : ∀ o, wr.frozen? ⟨g2, o, none⟩ = false := fun o => HVy.out.frozenAt o
                have hlk1 : (kxs L ++ [Value.int .u64 0]).length = m + 1 := by simp [kxs_len, HM.out]
                have hlv1 : (vxs L ++ [Value.int .i64 0]).length = m + 1 := by simp [vxs_len, HM.out]
                by_cases hlt2 : (p' + 1) < k
                · obtain ⟨k', rfl⟩ : ∃ k', k = k' + 1 := ⟨k - 1, by omega⟩
                  have hkL : k' < L.length := by have := HM.out; omega
                  have e1 : (kxs L ++ [Value.int .u64 0])[k']? = some (.int .u64 L[k'].1) := by rw [List.getElem?_append_left (by rw [kxs_len]; exact hkL)]; simp [kxs, hkL]
                  have e2 : (vxs L ++ [Value.int .i64 0])[k']? = some (.int .i64 L[k'].2) := by rw [List.getElem?_append_left (by rw [vxs_len]; exact hkL)]; simp [vxs, hkL]
                  have d1 : wr.cell? ⟨g1, k', none⟩ = some (.int .u64 L[k'].1) := by rw [HKy.out.cellAt k' (by omega), shf_get _ hlk1 (by omega), if_pos (by omega)]; exact e1
                  have d2 : wr.cell? ⟨g2, k', none⟩ = some (.int .i64 L[k'].2) := by rw [HVy.out.cellAt k' (by omega), shf_get _ hlv1 (by omega), if_pos (by omega)]; exact e2
                  obtain ⟨o1, d3⟩ : ∃ u, wr.cell? ⟨g1, k' + 1, none⟩ = some u := by rw [HKy.out.cellAt (k' + 1) (by omega), shf_get _ hlk1 (by omega), if_pos (by omega)]; exact ⟨_, List.getElem?_eq_getElem (by omega)⟩
                  obtain ⟨o2, d4⟩ : ∃ u, wr.cell? ⟨g2, k' + 1, none⟩ = some u := by rw [HVy.out.cellAt (k' + 1) (by omega), shf_get _ hlv1 (by omega), if_pos (by omega)]; exact ⟨_, List.getElem?_eq_getElem (by omega)⟩
                  have N1 : Hid (((wr.setCell ⟨g1, k' + 1, none⟩ (.int .u64 L[k'].1)).setCell ⟨g2, k' + 1, none⟩ (.int .i64 L[k'].2)).ownsRow w.heap.size 30 1 (.slice (some ⟨g1, 0, none⟩) (m + 1) cap1) (m + 1) (shf (kxs L ++ [.int .u64 0]) m k')) := by
                    have := own_set_other (HKy.out.stored (k' + 1) (.int .u64 L[k'].1)).1 (g := g2) (o := k' + 1) (by simp only [Value.ownBlock, ne_eq, Option.some.injEq]; exact hg12) (.int .i64 L[k'].2)
                    rw [shf_step _ hlk1 (by omega) e1] at this
                    exact this
                  have N2 : Hid (((wr.setCell ⟨g1, k' + 1, none⟩ (.int .u64 L[k'].1)).setCell ⟨g2, k' + 1, none⟩ (.int .i64 L[k'].2)).ownsRow w.heap.size 3 1 (.slice (some ⟨g2, 0, none⟩) (m + 1) cap2) (m + 1) (shf (vxs L ++ [.int .i64 0]) m k')) := by
                    have := (own_set_other HVy.out (g := g1) (o := k' + 1) (by simp only [Value.ownBlock, ne_eq, Option.some.injEq]; exact fun e => hg12 e.symm) (.int .u64 L[k'].1)).stored (k' + 1) (.int .i64 L[k'].2)
                    replace this := this.1
                    rw [shf_step _ hlv1 (by omega) e2] at this
                    exact this
                  have N3 : Hid (Below w.heap.size w ((wr.setCell ⟨g1, k' + 1, none⟩ (.int .u64 L[k'].1)).setCell ⟨g2, k' + 1, none⟩ (.int .i64 L[k'].2))) := (HBy.out.setCell (p := ⟨g1, k' + 1, none⟩) hgl1' _).setCell (p := ⟨g2, k' + 1, none⟩) hgl2' _
                  clear e1 e2 hlk1 hlv1 HKy HVy HBy
                  generalize L[k'].1 = y1 at *
                  generalize L[k'].2 = y2 at *
                  go_wp2
                  go_roundg k'
                  case measure => omega
                  case rel => exact ⟨k', by go_num, by omega, by omega, rfl, N1, N2, N3⟩
                · obtain rfl : k = p' + 1 := by omega
                  have hIy : RefAt wr b x ks vs most e len n D := HI.out.of_blocks (HBy.out.block b hlb) (HBy.out.block x hlx) (HBy.out.block ks hlk) (HBy.out.block vs hlv)
                  have c3y := hIy.c3
                  have c4y := hIy.c4
                  have k1y := hIy.k1 i hlt
                  have k2y := hIy.k2 i hlt
                  rw [HKE.out] at k1y
                  rw [HVE.out] at k2y
                  obtain ⟨o1, d3⟩ : ∃ u, wr.cell? ⟨g1, (p' + 1), none⟩ = some u := by rw [HKy.out.cellAt (p' + 1) (by omega), shf_get _ hlk1 (by omega), if_pos (by omega)]; exact ⟨_, List.getElem?_eq_getElem (by omega)⟩
                  obtain ⟨o2, d4⟩ : ∃ u, wr.cell? ⟨g2, (p' + 1), none⟩ = some u := by rw [HVy.out.cellAt (p' + 1) (by omega), shf_get _ hlv1 (by omega), if_pos (by omega)]; exact ⟨_, List.getElem?_eq_getElem (by omega)⟩
                  have hml := HM.out
                  have hlen : (L.take (p' + 1) ++ (key, vl) :: L.drop (p' + 1)).length = m + 1 := by simp; omega
                  have HF : Hid (AR w S n (gk0 - 1) (.slice (some ⟨g1, 0, none⟩) (m + 1) cap1) (.slice (some ⟨g2, 0, none⟩) (m + 1) cap2) (.int .i64 ((i : Int) + 1)) ((wr.setCell ⟨g1, (p' + 1), none⟩ (.int .u64 key)).setCell ⟨g2, (p' + 1), none⟩ (.int .i64 vl))) := by
                    refine hid ⟨i + 1, L.take (p' + 1) ++ (key, vl) :: L.drop (p' + 1), by go_num, by omega, ?_, ?_, ?_, ?_, ?_⟩
                    · rw [HE.out]; exact (ins_perm L (key, vl) (p' + 1)).trans (HP.out.append_right _)
                    · exact ins_sorted L (key, vl) (p' + 1) (by omega) HS.out (fun j hj hkj => hlo.out j hj hkj) HI2.out
                    · rw [hlen, kxs_ins]
                      have := own_set_other (HKy.out.stored (p' + 1) (.int .u64 key)).1 (g := g2) (o := (p' + 1)) (by simp only [Value.ownBlock, ne_eq, Option.some.injEq]; exact hg12) (.int .i64 vl)
                      rw [show m = (kxs L).length from by rw [kxs_len]; exact hml, shf_end _ _ _ (by rw [kxs_len]; omega), kxs_len, ← hml] at this
                      exact this
                    · rw [hlen, vxs_ins]
                      have := ((own_set_other HVy.out (g := g1) (o := (p' + 1)) (by simp only [Value.ownBlock, ne_eq, Option.some.injEq]; exact fun e => hg12 e.symm) (.int .u64 key)).stored (p' + 1) (.int .i64 vl)).1
                      rw [show m = (vxs L).length from by rw [vxs_len]; exact hml, shf_end _ _ _ (by rw [vxs_len]; omega), vxs_len, ← hml] at this
                      exact this
                    · exact (HBy.out.setCell (p := ⟨g1, (p' + 1), none⟩) hgl1' _).setCell (p := ⟨g2, (p' + 1), none⟩) hgl2' _
                  clear hIy HKy HVy HBy hlk1 hlv1 hlen
                  go_wp2
                  go_roundg (gk0 - 1)
                  case measure => omega
                  case rel => exact HF.out
    · obtain rfl : i = n := by omega
      have HF : Hid (AllAt w S i (.returned (.tuple #[u4, u5])) wr) := hid ⟨L, u4, u5, ⟨hperm, hsort⟩, rfl, hok, hov, hB⟩
      clear hperm hsort hok hov hB hIr
      go_wp2
      go_ret2
      exact HF.out
end Go.Proofs.Ytcieieljgmkjmaa.Ref
