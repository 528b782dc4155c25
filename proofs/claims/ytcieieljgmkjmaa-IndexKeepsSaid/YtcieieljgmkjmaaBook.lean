/- Maps of the call's own whose keys and values are integers, told by a function (no program in sight). -/
import Derived.Maps.OwnSet
import Derived.Maps.OwnIn
import Derived.RangeFuncOwn
set_option linter.unusedVariables false
namespace Winnow
open Go Go.RowKit Go.ChangeMaps Go.WideShapes
open Go.Maps (Keyed)

/-- The types of a map: t itself, its keys' and its values'. -/
structure Typed (P : Program) (t k e : TypeId) (qk qe : IntKind) : Prop where
  ht : P.underlying t = some (.map k e)
  hk : P.underlying k = some (.int qk)
  he : P.underlying e = some (.int qe)
  hz : ∀ w, (zeroValue e).run P w = .ok (.int qe 0) w

def lwf (q : IntKind) (x : Int) : Prop := (Lit.int q x).wf = true

/-- Block B is a map of c entries, which are f. -/
def MapF (P : Program) (k e : TypeId) (qk qe : IntKind) (W : World) (B : Nat) (f : Int → Option Int) (c : Nat) : Prop :=
  ∃ D : DataW Unit, W.ownsMap P k (plainElem P e) B c D ∧ Maps.size D = c ∧ ∀ x, lwf qk x → Maps.has D (.int qk x) = (f x).isSome ∧ ∀ v, f x = some v → ∀ z, D.atKey (.int qk x) z = .lit (.int qe v)

def fput (f : Int → Option Int) (x v : Int) : Int → Option Int := fun y => if y = x then some v else f y
def fdel (f : Int → Option Int) (x : Int) : Int → Option Int := fun y => if y = x then none else f y

variable {P : Program} {t k e : TypeId} {qk qe : IntKind} {W : World} {B c : Nat} {f : Int → Option Int}

theorem tight {D : DataW Unit} {R : Value → Option (DataW Unit × List MemPlace)} {n : Nat} (h : W.ownsMap P k R B n D) : W.ownsMap P k R B (Maps.size D) D := by
  obtain ⟨es, clock, hb, F, hs, rfl⟩ := h
  exact ⟨es, clock, hb, F, by simp [Maps.size, length_sorted], rfl⟩

theorem isKey (qk : IntKind) (x : Int) : WideAt.IsKeyLit (.int qk x) := trivial

theorem MapF.made (W : World) : MapF P k e qk qe (W.alloc (.map #[] 0)) W.heap.size (fun _ => none) 0 :=
  ⟨.map [], World.ownsMap_made W P k _, rfl, fun x hx => ⟨rfl, fun v h => by simp at h⟩⟩
theorem MapF.lt (h : MapF P k e qk qe W B f c) : B < W.heap.size := by obtain ⟨D, h, _⟩ := h; exact h.lt
theorem MapF.kept {W' : World} {row : Option Nat} (h : MapF P k e qk qe W B f c) (hg : W.grownBy W' row) (hne : some B ≠ row) : MapF P k e qk qe W' B f c := by
  obtain ⟨D, h, r⟩ := h; exact ⟨D, h.kept hg hne, r⟩
theorem MapF.of_block {W' : World} (h : MapF P k e qk qe W B f c) (hb : W'.heap[B]? = W.heap[B]?) : MapF P k e qk qe W' B f c := by
  obtain ⟨D, ⟨es, clock, h1, h2⟩, r⟩ := h
  exact ⟨D, ⟨es, clock, hb.trans h1, h2⟩, r⟩

theorem MapF.look_ok (T : Typed P t k e qk qe) (h : MapF P k e qk qe W B f c) {x : Int} (hx : lwf qk x) :
    (Instr.lookup t (.map (some B)) (.int qk x) true).run P W = .ok (.tuple #[.int qe ((f x).getD 0), .bool (f x).isSome]) W := by
  obtain ⟨D, h, _, r⟩ := h
  obtain ⟨r1, r2⟩ := r x hx
  obtain ⟨v, ps, hrun, hv⟩ := h.look_ok (Maps.int_keyed T.hk) T.ht (T.hz W) (plainElem_int T.he (by cases qe <;> decide)) (Maps.keyOf_int_mk T.hk hx)
  obtain ⟨a, rfl, ha, _⟩ := plainElem_int_inv T.he hv
  simp only [Prod.mk.injEq] at ha
  rw [hrun, r1]
  cases hf : f x with
  | none =>
    rw [hf] at r1
    have := Maps.atKey_of_not_has r1 (.lit (.int qe 0))
    rw [this] at ha
    have := ha.1
    simp at this
    simp [this]
  | some u =>
    have := r2 u hf (.lit (.int qe 0))
    rw [this] at ha
    have := ha.1
    simp at this
    simp [this]
theorem MapF.look (T : Typed P t k e qk qe) (h : MapF P k e qk qe W B f c) {x : Int} (hx : lwf qk x) :
    (Instr.lookup t (.map (some B)) (.int qk x) false).run P W = .ok (.int qe ((f x).getD 0)) W := by
  obtain ⟨D, h, _, r⟩ := h
  obtain ⟨r1, r2⟩ := r x hx
  obtain ⟨a, hrun, ha, _⟩ := h.lookup_int (Maps.int_keyed T.hk) T.ht T.he (T.hz W) (Maps.keyOf_int_mk T.hk hx)
  rw [hrun]
  cases hf : f x with
  | none =>
    rw [hf] at r1
    rw [Maps.atKey_of_not_has r1] at ha
    simp at ha
    simp [ha]
  | some u =>
    rw [r2 u hf] at ha
    simp at ha
    simp [ha]
theorem MapF.len (T : Typed P t k e qk qe) (h : MapF P k e qk qe W B f c) (ty : TypeId) : (Builtin.len_ #[t] ty #[.map (some B)]).run P W = .ok (.int .i64 c) W := by
  obtain ⟨D, h, hs, _⟩ := h
  rw [← hs]; exact h.len T.ht ty
theorem MapF.store (T : Typed P t k e qk qe) (h : MapF P k e qk qe W B f c) (hc : c < maxLen) {x v : Int} (hx : lwf qk x) (hv : lwf qe v) :
    ∃ W', (Instr.mapUpdate t (.map (some B)) (.int qk x) (.int qe v)).run P W = .ok () W' ∧ MapF P k e qk qe W' B (fput f x v) (if (f x).isSome then c else c + 1) ∧ W.grownBy W' (some B) ∧ ∀ a, W'.frozen? a = W.frozen? a := by
  obtain ⟨D, h, hs, r⟩ := h
  obtain ⟨W', hrun, h', ht⟩ := h.store (Maps.int_keyed T.hk) T.ht hc (Maps.keyOf_int_mk T.hk hx) (plainElem_int T.he hv)
  have hsz := Maps.size_put (k := .int qk x) (h.tidy (Maps.int_keyed T.hk)) (.lit (.int qe v))
  refine ⟨W', hrun, ⟨_, by have := tight h'; rw [hsz, (r x hx).1, hs] at this; exact this, by rw [hsz, (r x hx).1, hs], fun y hy => ?_⟩, ht.grown, ht.frozen⟩
  unfold fput
  by_cases e1 : y = x
  · subst e1
    rw [if_pos rfl]
    exact ⟨by rw [Maps.has_put_same h.isMap (isKey _ _)]; rfl, fun u hu z => by cases hu; rw [Maps.atKey_put_same h.isMap (isKey _ _)]⟩
  · rw [if_neg e1]
    have hne : Lit.int qk y ≠ .int qk x := fun e' => e1 (by simpa using e')
    exact ⟨by rw [Maps.has_put_other hne]; exact (r y hy).1, fun u hu z => by rw [Maps.atKey_put_other hne]; exact (r y hy).2 u hu z⟩
theorem MapF.drop (T : Typed P t k e qk qe) (h : MapF P k e qk qe W B f c) {x : Int} (hx : lwf qk x) (ty : TypeId) :
    ∃ W', (Builtin.delete_ #[t, k] ty #[.map (some B), .int qk x]).run P W = .ok (.tuple #[]) W' ∧ MapF P k e qk qe W' B (fdel f x) (if (f x).isSome then c - 1 else c) ∧ W.grownBy W' (some B) ∧ ∀ a, W'.frozen? a = W.frozen? a := by
  obtain ⟨D, h, hs, r⟩ := h
  obtain ⟨W', hrun, h', ht⟩ := h.drop (Maps.int_keyed T.hk) T.ht (Maps.keyOf_int_mk T.hk hx) ty
  have hsz := Maps.size_del (k := .int qk x) (h.tidy (Maps.int_keyed T.hk))
  have hsz' : Maps.size (D.del (.int qk x)) = if (f x).isSome then c - 1 else c := by
    rw [(r x hx).1, hs] at hsz
    split at hsz <;> simp_all <;> omega
  refine ⟨W', hrun, ⟨_, by have := tight h'; rw [hsz'] at this; exact this, hsz', fun y hy => ?_⟩, ht.grown, ht.frozen⟩
  unfold fdel
  by_cases e1 : y = x
  · subst e1
    rw [if_pos rfl]
    exact ⟨by rw [Maps.has_del_same]; rfl, fun u hu => by simp at hu⟩
  · rw [if_neg e1]
    have hne : Lit.int qk y ≠ .int qk x := fun e' => e1 (by simpa using e')
    exact ⟨by rw [Maps.has_del_other hne]; exact (r y hy).1, fun u hu z => by rw [Maps.atKey_del_other hne]; exact (r y hy).2 u hu z⟩

/-! ### at the operation -/
section
variable (w : World) {ops : Array Oper} {rest : List Oper} {o : Oper} {a : Act} {Q : Exit → Act → World → Prop}
theorem wpList_F_look_ok (hg : o.guard = none) (m x : Operand) (t : TypeId) (hop : o.op = Op.lookup t m x true) (T : Typed P t k e qk qe) (B c : Nat) (f : Int → Option Int)
    (hm : a.eval m = .map (some B)) (h : MapF P k e qk qe w B f c) (key : Int) (hx : a.eval x = .int qk key) (hwf : lwf qk key)
    (hK : wpList P ops Q rest (a.put o.dst (.tuple #[.int qe ((f key).getD 0), .bool (f key).isSome])) w) : wpList P ops Q (o :: rest) a w := by
  refine wpList_plain hg fun K' hK' => ?_
  unfold Oper.wp
  simp [execOp, hop, hm, hx, h.look_ok T hwf, Result.andThen]
  exact hK' _ _ hK
theorem wpList_F_look_ok_some (hg : o.guard = none) (m x : Operand) (t : TypeId) (hop : o.op = Op.lookup t m x true) (T : Typed P t k e qk qe) (B c : Nat) (f : Int → Option Int)
    (hm : a.eval m = .map (some B)) (h : MapF P k e qk qe w B f c) (key : Int) (hx : a.eval x = .int qk key) (hwf : lwf qk key) (v : Int) (hv : f key = some v)
    (hK : wpList P ops Q rest (a.put o.dst (.tuple #[.int qe v, .bool true])) w) : wpList P ops Q (o :: rest) a w :=
  wpList_F_look_ok w hg m x t hop T B c f hm h key hx hwf (by rw [hv]; exact hK)
theorem wpList_F_look_ok_none (hg : o.guard = none) (m x : Operand) (t : TypeId) (hop : o.op = Op.lookup t m x true) (T : Typed P t k e qk qe) (B c : Nat) (f : Int → Option Int)
    (hm : a.eval m = .map (some B)) (h : MapF P k e qk qe w B f c) (key : Int) (hx : a.eval x = .int qk key) (hwf : lwf qk key) (hv : f key = none)
    (hK : wpList P ops Q rest (a.put o.dst (.tuple #[.int qe 0, .bool false])) w) : wpList P ops Q (o :: rest) a w :=
  wpList_F_look_ok w hg m x t hop T B c f hm h key hx hwf (by rw [hv]; exact hK)
theorem wpList_F_look (hg : o.guard = none) (m x : Operand) (t : TypeId) (hop : o.op = Op.lookup t m x false) (T : Typed P t k e qk qe) (B c : Nat) (f : Int → Option Int)
    (hm : a.eval m = .map (some B)) (h : MapF P k e qk qe w B f c) (key : Int) (hx : a.eval x = .int qk key) (hwf : lwf qk key)
    (hK : wpList P ops Q rest (a.put o.dst (.int qe ((f key).getD 0))) w) : wpList P ops Q (o :: rest) a w := by
  refine wpList_plain hg fun K' hK' => ?_
  unfold Oper.wp
  simp [execOp, hop, hm, hx, h.look T hwf, Result.andThen]
  exact hK' _ _ hK
theorem wpList_F_look_some (hg : o.guard = none) (m x : Operand) (t : TypeId) (hop : o.op = Op.lookup t m x false) (T : Typed P t k e qk qe) (B c : Nat) (f : Int → Option Int)
    (hm : a.eval m = .map (some B)) (h : MapF P k e qk qe w B f c) (key : Int) (hx : a.eval x = .int qk key) (hwf : lwf qk key) (v : Int) (hv : f key = some v)
    (hK : wpList P ops Q rest (a.put o.dst (.int qe v)) w) : wpList P ops Q (o :: rest) a w :=
  wpList_F_look w hg m x t hop T B c f hm h key hx hwf (by rw [hv]; exact hK)
theorem wpList_F_len (hg : o.guard = none) (m : Operand) (t : TypeId) (hop : o.op = Op.call { callee := Callee.builtin Builtin.len, args := #[m], argTypes := #[t] }) (T : Typed P t k e qk qe) (B c : Nat) (f : Int → Option Int)
    (hm : a.eval m = .map (some B)) (h : MapF P k e qk qe w B f c) (hK : wpList P ops Q rest (a.put o.dst (.int .i64 c)) w) : wpList P ops Q (o :: rest) a w := by
  refine wpList_plain hg fun K' hK' => ?_
  unfold Oper.wp
  simp [execOp, hop, resolve, invoke, builtin, hm, h.len T o.type, Result.andThen]
  exact hK' _ _ hK
theorem wpList_F_store (hg : o.guard = none) (m x v : Operand) (t : TypeId) (hop : o.op = Op.mapUpdate t m x v) (T : Typed P t k e qk qe) (B c : Nat) (f : Int → Option Int)
    (hm : a.eval m = .map (some B)) (h : MapF P k e qk qe w B f c) (hc : c < maxLen) (key val : Int) (hx : a.eval x = .int qk key) (hv : a.eval v = .int qe val) (hwf : lwf qk key) (hwv : lwf qe val)
    (hK : ∀ w', MapF P k e qk qe w' B (fput f key val) (if (f key).isSome then c else c + 1) → w.grownBy w' (some B) → (∀ a, w'.frozen? a = w.frozen? a) → wpList P ops Q rest (a.put o.dst undef) w') : wpList P ops Q (o :: rest) a w := by
  refine wpList_plain hg fun K' hK' => ?_
  obtain ⟨w', hrun, r1, r2, r3⟩ := h.store T hc hwf hwv
  unfold Oper.wp
  simp [execOp, hop, hm, hx, hv, hrun, Result.andThen]
  exact hK' _ _ (hK w' r1 r2 r3)
theorem wpList_F_store_new (hg : o.guard = none) (m x v : Operand) (t : TypeId) (hop : o.op = Op.mapUpdate t m x v) (T : Typed P t k e qk qe) (B c : Nat) (f : Int → Option Int)
    (hm : a.eval m = .map (some B)) (h : MapF P k e qk qe w B f c) (hc : c < maxLen) (key val : Int) (hx : a.eval x = .int qk key) (hv : a.eval v = .int qe val) (hwf : lwf qk key) (hwv : lwf qe val) (hn : f key = none)
    (hK : ∀ w', MapF P k e qk qe w' B (fput f key val) (c + 1) → w.grownBy w' (some B) → wpList P ops Q rest (a.put o.dst undef) w') : wpList P ops Q (o :: rest) a w :=
  wpList_F_store w hg m x v t hop T B c f hm h hc key val hx hv hwf hwv (fun w' r1 r2 _ => hK w' (by rw [hn] at r1; exact r1) r2)
theorem wpList_F_store_old (hg : o.guard = none) (m x v : Operand) (t : TypeId) (hop : o.op = Op.mapUpdate t m x v) (T : Typed P t k e qk qe) (B c : Nat) (f : Int → Option Int)
    (hm : a.eval m = .map (some B)) (h : MapF P k e qk qe w B f c) (hc : c < maxLen) (key val : Int) (hx : a.eval x = .int qk key) (hv : a.eval v = .int qe val) (hwf : lwf qk key) (hwv : lwf qe val) (u : Int) (hn : f key = some u)
    (hK : ∀ w', MapF P k e qk qe w' B (fput f key val) c → w.grownBy w' (some B) → wpList P ops Q rest (a.put o.dst undef) w') : wpList P ops Q (o :: rest) a w :=
  wpList_F_store w hg m x v t hop T B c f hm h hc key val hx hv hwf hwv (fun w' r1 r2 _ => hK w' (by rw [hn] at r1; exact r1) r2)
theorem wpList_F_delete (hg : o.guard = none) (m x : Operand) (t : TypeId) (hop : o.op = Op.call { callee := Callee.builtin Builtin.delete, args := #[m, x], argTypes := #[t, k] }) (T : Typed P t k e qk qe) (B c : Nat) (f : Int → Option Int)
    (hm : a.eval m = .map (some B)) (h : MapF P k e qk qe w B f c) (key : Int) (hx : a.eval x = .int qk key) (hwf : lwf qk key)
    (hK : ∀ w', MapF P k e qk qe w' B (fdel f key) (if (f key).isSome then c - 1 else c) → w.grownBy w' (some B) → (∀ a, w'.frozen? a = w.frozen? a) → wpList P ops Q rest (a.put o.dst (.tuple #[])) w') : wpList P ops Q (o :: rest) a w := by
  refine wpList_plain hg fun K' hK' => ?_
  obtain ⟨w', hrun, r1, r2, r3⟩ := h.drop T hwf o.type
  unfold Oper.wp
  simp [execOp, hop, resolve, invoke, builtin, hm, hx, hrun, Result.andThen]
  exact hK' _ _ (hK w' r1 r2 r3)
theorem wpList_F_delete_none (hg : o.guard = none) (m x : Operand) (t : TypeId) (hop : o.op = Op.call { callee := Callee.builtin Builtin.delete, args := #[m, x], argTypes := #[t, k] }) (T : Typed P t k e qk qe) (B c : Nat) (f : Int → Option Int)
    (hm : a.eval m = .map (some B)) (h : MapF P k e qk qe w B f c) (key : Int) (hx : a.eval x = .int qk key) (hwf : lwf qk key) (hn : f key = none)
    (hK : ∀ w', MapF P k e qk qe w' B (fdel f key) c → w.grownBy w' (some B) → wpList P ops Q rest (a.put o.dst (.tuple #[])) w') : wpList P ops Q (o :: rest) a w :=
  wpList_F_delete w hg m x t hop T B c f hm h key hx hwf (fun w' r1 r2 _ => hK w' (by rw [hn] at r1; exact r1) r2)
theorem wpList_F_delete_there (hg : o.guard = none) (m x : Operand) (t : TypeId) (hop : o.op = Op.call { callee := Callee.builtin Builtin.delete, args := #[m, x], argTypes := #[t, k] }) (T : Typed P t k e qk qe) (B c : Nat) (f : Int → Option Int)
    (hm : a.eval m = .map (some B)) (h : MapF P k e qk qe w B f (c + 1)) (key : Int) (hx : a.eval x = .int qk key) (hwf : lwf qk key) (u : Int) (hn : f key = some u)
    (hK : ∀ w', MapF P k e qk qe w' B (fdel f key) c → w.grownBy w' (some B) → wpList P ops Q rest (a.put o.dst (.tuple #[])) w') : wpList P ops Q (o :: rest) a w :=
  wpList_F_delete w hg m x t hop T B (c + 1) f hm h key hx hwf (fun w' r1 r2 _ => hK w' (by rw [hn] at r1; exact r1) r2)

variable {F : Fence} {nF : Nat}
theorem wpListIn_F_look_ok (hg : o.guard = none) (m x : Operand) (t : TypeId) (hop : o.op = Op.lookup t m x true) (T : Typed P t k e qk qe) (B c : Nat) (f : Int → Option Int)
    (hm : a.eval m = .map (some B)) (h : MapF P k e qk qe w B f c) (key : Int) (hx : a.eval x = .int qk key) (hwf : lwf qk key)
    (hK : wpListIn F nF P ops Q rest (a.put o.dst (.tuple #[.int qe ((f key).getD 0), .bool (f key).isSome])) w) : wpListIn F nF P ops Q (o :: rest) a w := by
  refine wpListIn_plain hg fun K' hK' => ?_
  unfold Oper.wpIn
  refine ⟨by simp [Oper.about, hop], ?_⟩
  rw [Oper.semAt_plain F _ _ (by rw [hop]; intro c hc'; cases hc')]
  simp [execOp, hop, hm, hx, h.look_ok T hwf, Result.andThen]
  exact hK' _ _ hK
theorem wpListIn_F_look_ok_some (hg : o.guard = none) (m x : Operand) (t : TypeId) (hop : o.op = Op.lookup t m x true) (T : Typed P t k e qk qe) (B c : Nat) (f : Int → Option Int)
    (hm : a.eval m = .map (some B)) (h : MapF P k e qk qe w B f c) (key : Int) (hx : a.eval x = .int qk key) (hwf : lwf qk key) (v : Int) (hv : f key = some v)
    (hK : wpListIn F nF P ops Q rest (a.put o.dst (.tuple #[.int qe v, .bool true])) w) : wpListIn F nF P ops Q (o :: rest) a w :=
  wpListIn_F_look_ok w hg m x t hop T B c f hm h key hx hwf (by rw [hv]; exact hK)
theorem wpListIn_F_look_ok_none (hg : o.guard = none) (m x : Operand) (t : TypeId) (hop : o.op = Op.lookup t m x true) (T : Typed P t k e qk qe) (B c : Nat) (f : Int → Option Int)
    (hm : a.eval m = .map (some B)) (h : MapF P k e qk qe w B f c) (key : Int) (hx : a.eval x = .int qk key) (hwf : lwf qk key) (hv : f key = none)
    (hK : wpListIn F nF P ops Q rest (a.put o.dst (.tuple #[.int qe 0, .bool false])) w) : wpListIn F nF P ops Q (o :: rest) a w :=
  wpListIn_F_look_ok w hg m x t hop T B c f hm h key hx hwf (by rw [hv]; exact hK)
theorem wpListIn_F_look (hg : o.guard = none) (m x : Operand) (t : TypeId) (hop : o.op = Op.lookup t m x false) (T : Typed P t k e qk qe) (B c : Nat) (f : Int → Option Int)
    (hm : a.eval m = .map (some B)) (h : MapF P k e qk qe w B f c) (key : Int) (hx : a.eval x = .int qk key) (hwf : lwf qk key)
    (hK : wpListIn F nF P ops Q rest (a.put o.dst (.int qe ((f key).getD 0))) w) : wpListIn F nF P ops Q (o :: rest) a w := by
  refine wpListIn_plain hg fun K' hK' => ?_
  unfold Oper.wpIn
  refine ⟨by simp [Oper.about, hop], ?_⟩
  rw [Oper.semAt_plain F _ _ (by rw [hop]; intro c hc'; cases hc')]
  simp [execOp, hop, hm, hx, h.look T hwf, Result.andThen]
  exact hK' _ _ hK
end
end Winnow
