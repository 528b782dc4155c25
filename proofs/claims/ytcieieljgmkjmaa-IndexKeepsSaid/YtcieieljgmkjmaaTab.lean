/- Plain facts on open-addressed tables with linear probing and backward shifts (no program in sight). -/
set_option linter.unusedVariables false
namespace Winnow

/-- The place behind one. -/
def nx (n i : Nat) : Nat := if i + 1 = n then 0 else i + 1
/-- How many steps from a to b, going round. -/
def dist (n a b : Nat) : Nat := if a ≤ b then b - a else b + n - a
def upd {β : Type} (f : Nat → β) (i : Nat) (x : β) : Nat → β := fun j => if j = i then x else f j
theorem upd_same {β : Type} (f : Nat → β) (i : Nat) (x : β) : upd f i x i = x := by simp [upd]
theorem upd_other {β : Type} (f : Nat → β) {i j : Nat} (x : β) (h : j ≠ i) : upd f i x j = f j := by simp [upd, h]

def golden : Nat := 11400714819323198485
def two64 : Nat := 18446744073709551616
def home (n key : Nat) : Nat := key * golden % two64 * n / two64

theorem home_lt {n : Nat} (hn : 0 < n) (key : Nat) : home n key < n := by
  unfold home
  rw [Nat.div_lt_iff_lt_mul (by decide)]
  have h : key * golden % two64 < two64 := Nat.mod_lt _ (by decide)
  rw [Nat.mul_comm n two64]
  exact Nat.mul_lt_mul_of_pos_right h hn

/-- For omega: what each word comes to. -/
theorem dc (n a b : Nat) : (a ≤ b ∧ dist n a b = b - a) ∨ (b < a ∧ dist n a b = b + n - a) := by
  unfold dist; split
  · left; exact ⟨by assumption, rfl⟩
  · right; exact ⟨by omega, rfl⟩
theorem nc (n i : Nat) : (i + 1 = n ∧ nx n i = 0) ∨ (i + 1 ≠ n ∧ nx n i = i + 1) := by
  unfold nx; split
  · left; exact ⟨by assumption, rfl⟩
  · right; exact ⟨by assumption, rfl⟩

theorem nx_lt {n i : Nat} (h : i < n) : nx n i < n := by unfold nx; split <;> omega
theorem nx_mod {n i : Nat} (h : i < n) : (i + 1) % n = nx n i := by
  unfold nx; split
  · next e => rw [e]; exact Nat.mod_self n
  · exact Nat.mod_eq_of_lt (by omega)

section
variable {α : Type}

/-- The table: what lies at each place. -/
abbrev Tb (α : Type) := Nat → Option (Nat × α)

def stopAt (S : Tb α) (key at_ : Nat) : Bool := match S at_ with | none => true | some (k, _) => k == key

def findGo (n : Nat) (S : Tb α) (key : Nat) : Nat → Nat → Nat
  | 0, a => a
  | f + 1, a => if stopAt S key a then a else findGo n S key f (nx n a)

def find (n : Nat) (S : Tb α) (key : Nat) : Nat := findGo n S key n (home n key)

theorem findGo_lt {n : Nat} (S : Tb α) (key : Nat) : ∀ f a, a < n → findGo n S key f a < n := by
  intro f
  induction f with
  | zero => intro a h; exact h
  | succ f ih => intro a h; unfold findGo; split; exact h; exact ih _ (nx_lt h)

theorem find_lt {n : Nat} (hn : 0 < n) (S : Tb α) (key : Nat) : find n S key < n := findGo_lt S key n _ (home_lt hn key)

theorem findGo_stop {n : Nat} {S : Tb α} {key a : Nat} (h : stopAt S key a = true) (f : Nat) : findGo n S key f a = a := by
  cases f <;> simp [findGo, h]

theorem findGo_go {n : Nat} {S : Tb α} {key a : Nat} (h : stopAt S key a = false) (f : Nat) : findGo n S key (f + 1) a = findGo n S key f (nx n a) := by
  simp [findGo, h]

/-- What a search finds: the first place from a on at which it stops, if there is one. -/
theorem findGo_spec {n : Nat} {S : Tb α} {key e : Nat} (he : e < n) (hs : stopAt S key e = true) :
    ∀ f a, a < n → dist n a e ≤ f → stopAt S key (findGo n S key f a) = true ∧ dist n a (findGo n S key f a) ≤ dist n a e ∧
      ∀ x, x < n → dist n a x < dist n a (findGo n S key f a) → stopAt S key x = false := by
  intro f
  induction f with
  | zero =>
    intro a ha hd
    have : a = e := by unfold dist at hd; split at hd <;> omega
    subst this
    refine ⟨hs, Nat.le_refl _, fun x hx h => ?_⟩
    simp only [findGo] at h
    have : dist n a a = 0 := by unfold dist; simp
    omega
  | succ f ih =>
    intro a ha hd
    by_cases h : stopAt S key a = true
    · rw [findGo_stop h]
      have : dist n a a = 0 := by unfold dist; simp
      exact ⟨h, by omega, fun x hx hlt => by omega⟩
    · have h' : stopAt S key a = false := by simpa using h
      rw [findGo_go h']
      have hne : a ≠ e := fun e' => by rw [e'] at h; exact h hs
      have hd' : dist n (nx n a) e ≤ f := by
        unfold dist nx at *; split at hd <;> split <;> (try split) <;> omega
      obtain ⟨h1, h2, h3⟩ := ih (nx n a) (nx_lt ha) hd'
      have hl : findGo n S key f (nx n a) < n := findGo_lt S key f _ (nx_lt ha)
      generalize findGo n S key f (nx n a) = p at h1 h2 h3 hl
      have hpa : p ≠ a := fun e' => by rw [e'] at h1; exact h h1
      have step : ∀ y, y < n → y ≠ a → dist n a y = dist n (nx n a) y + 1 := by
        intro y hy hya
        unfold dist nx; split <;> split <;> (try split) <;> omega
      refine ⟨h1, ?_, fun x hx hlt => ?_⟩
      · rw [step p hl hpa, step e he (fun e' => hne e'.symm)]; omega
      · by_cases hxa : x = a
        · rw [hxa]; exact h'
        · rw [step p hl hpa, step x hx hxa] at hlt
          exact h3 x hx (by omega)

theorem dist_lt {n a b : Nat} (ha : a < n) (hb : b < n) : dist n a b < n := by unfold dist; split <;> omega
theorem dist_self (n a : Nat) : dist n a a = 0 := by unfold dist; simp
theorem dist_pos {n a b : Nat} (ha : a < n) (hb : b < n) (h : a ≠ b) : 0 < dist n a b := by unfold dist; split <;> omega
theorem dist_inj {n a b c : Nat} (hb : b < n) (hc : c < n) (ha : a < n) (h : dist n a b = dist n a c) : b = c := by
  unfold dist at h; split at h <;> split at h <;> omega
theorem dist_nx {n a e : Nat} (ha : a < n) (he : e < n) (h : a ≠ e) : dist n a e = dist n (nx n a) e + 1 := by
  unfold dist nx; split <;> split <;> (try split) <;> omega

/-- Where there is an empty place a search comes to its end. -/
theorem find_spec {n : Nat} {S : Tb α} {e : Nat} (he : e < n) (hs : S e = none) (key : Nat) :
    stopAt S key (find n S key) = true ∧ ∀ x, x < n → dist n (home n key) x < dist n (home n key) (find n S key) → stopAt S key x = false := by
  have hn : 0 < n := by omega
  obtain ⟨h1, _, h3⟩ := findGo_spec (S := S) (key := key) he (by simp [stopAt, hs]) n (home n key) (home_lt hn key) (Nat.le_of_lt (dist_lt (home_lt hn key) he))
  exact ⟨h1, h3⟩

/-- No place between a key's home and its place is empty; no two places have one key. -/
structure Inv (n : Nat) (S : Tb α) : Prop where
  path : ∀ p k v, p < n → S p = some (k, v) → ∀ x, x < n → dist n (home n k) x < dist n (home n k) p → S x ≠ none
  uniq : ∀ p q k v u, p < n → q < n → S p = some (k, v) → S q = some (k, u) → p = q

theorem Inv.empty (n : Nat) : Inv (α := α) n (fun _ => none) := ⟨fun _ _ _ _ h => by simp at h, fun _ _ _ _ _ _ _ h => by simp at h⟩

/-- A key that is there is found at its place. -/
theorem Inv.find_of {n : Nat} {S : Tb α} (I : Inv n S) {e : Nat} (he : e < n) (hs : S e = none) {p k : Nat} {v : α} (hp : p < n) (h : S p = some (k, v)) : find n S k = p := by
  have hn : 0 < n := by omega
  obtain ⟨h1, h2⟩ := find_spec he hs k
  have hl := find_lt hn S k
  have hh := home_lt hn k
  generalize find n S k = q at h1 h2 hl
  rcases Nat.lt_trichotomy (dist n (home n k) q) (dist n (home n k) p) with hlt | heq | hgt
  · have := I.path p k v hp h q hl hlt
    unfold stopAt at h1
    cases hq : S q with
    | none => exact absurd hq this
    | some x =>
      rw [hq] at h1
      obtain ⟨k', u⟩ := x
      simp at h1
      subst h1
      exact I.uniq q p k' u v hl hp hq h
  · exact dist_inj hl hp hh heq
  · have := h2 p hp hgt
    simp [stopAt, h] at this

/-- What lies under a key. -/
def get (n : Nat) (S : Tb α) (key : Nat) : Option α := (S (find n S key)).map (·.2)

theorem stopAt_some {S : Tb α} {key p k : Nat} {v : α} (h : stopAt S key p = true) (hp : S p = some (k, v)) : k = key := by
  unfold stopAt at h; rw [hp] at h; simpa using h

theorem get_some {n : Nat} {S : Tb α} (I : Inv n S) {e : Nat} (he : e < n) (hs : S e = none) (key : Nat) (v : α) :
    get n S key = some v ↔ ∃ p, p < n ∧ S p = some (key, v) := by
  have hn : 0 < n := by omega
  constructor
  · intro h
    unfold get at h
    obtain ⟨h1, _⟩ := find_spec he hs key
    cases hp : S (find n S key) with
    | none => rw [hp] at h; simp at h
    | some x =>
      obtain ⟨k, u⟩ := x
      rw [hp] at h
      simp at h
      subst h
      have := stopAt_some h1 hp
      subst this
      exact ⟨_, find_lt hn S k, hp⟩
  · rintro ⟨p, hp, h⟩
    unfold get
    rw [I.find_of he hs hp h, h]; rfl

/-- PUT at the place that is found. -/
def putAt (n : Nat) (S : Tb α) (key : Nat) (v : α) : Tb α := upd S (find n S key) (some (key, v))

theorem Inv.put {n : Nat} {S : Tb α} (I : Inv n S) {e : Nat} (he : e < n) (hs : S e = none) (key : Nat) (v : α) : Inv n (putAt n S key v) := by
  have hn : 0 < n := by omega
  obtain ⟨h1, h2⟩ := find_spec he hs key
  have hl := find_lt hn S key
  unfold putAt
  have hq : ∀ q k u, q < n → S q = some (k, u) → k = key → q = find n S key := by
    intro q k u hq h e'; subst e'; exact (I.find_of he hs hq h).symm
  generalize find n S key = f at *
  refine ⟨fun p k u hp h x hx hd => ?_, fun p q k u u' hp hq' h h' => ?_⟩
  · by_cases hxf : x = f
    · rw [hxf, upd_same]; simp
    · rw [upd_other _ _ hxf]
      by_cases hpf : p = f
      · rw [hpf, upd_same] at h
        simp at h
        obtain ⟨rfl, rfl⟩ := h
        rw [hpf] at hd
        have := h2 x hx hd
        intro hn'; simp [stopAt, hn'] at this
      · rw [upd_other _ _ hpf] at h
        exact I.path p k u hp h x hx hd
  · by_cases hpf : p = f <;> by_cases hqf : q = f
    · rw [hpf, hqf]
    · rw [hpf, upd_same] at h; rw [upd_other _ _ hqf] at h'
      simp at h
      exact absurd (hq q k u' hq' h' h.1.symm) hqf
    · rw [hqf, upd_same] at h'; rw [upd_other _ _ hpf] at h
      simp at h'
      exact absurd (hq p k u hp h h'.1.symm) hpf
    · rw [upd_other _ _ hpf] at h; rw [upd_other _ _ hqf] at h'
      exact I.uniq p q k u u' hp hq' h h'

theorem putAt_find {n : Nat} {S : Tb α} {e : Nat} (he : e < n) (hs : S e = none) (key : Nat) (v : α) (p : Nat) :
    putAt n S key v p = if p = find n S key then some (key, v) else S p := by
  simp [putAt, upd]

/-- DROP: i the empty place, k the place that is looked at. -/
def dropGo (n : Nat) : Nat → Tb α → Nat → Nat → Tb α
  | 0, S, _, _ => S
  | f + 1, S, i, k => match S k with
    | none => S
    | some (y, _) => if dist n i k ≤ dist n (home n y) k then dropGo n f (upd (upd S i (S k)) k none) k (nx n k) else dropGo n f S i (nx n k)

def dropAt (n : Nat) (S : Tb α) (p : Nat) : Tb α := dropGo n n (upd S p none) p (nx n p)

/-- The state of a drop: hole i, at k; e an empty place ahead. -/
structure Dst (n : Nat) (S : Tb α) (i k e : Nat) : Prop where
  li : i < n
  lk : k < n
  le : e < n
  hole : S i = none
  emp : S e = none
  ie : i ≠ e
  ik : i ≠ k
  way : dist n i k + dist n k e = dist n i e
  uniq : ∀ p q x v u, p < n → q < n → S p = some (x, v) → S q = some (x, u) → p = q
  path : ∀ p x v, p < n → S p = some (x, v) → ∀ y, y < n → dist n (home n x) y < dist n (home n x) p → S y ≠ none ∨ (y = i ∧ dist n i k ≤ dist n i p)

theorem Dst.start {n : Nat} {S : Tb α} (I : Inv n S) {p e : Nat} (hp : p < n) (he : e < n) (hs : S e = none) (hpe : p ≠ e) : Dst n (upd S p none) p (nx n p) e := by
  have hnx : nx n p ≠ p := by unfold nx; split <;> omega
  refine ⟨hp, nx_lt hp, he, upd_same _ _ _, ?_, hpe, fun h => hnx h.symm, ?_, ?_, ?_⟩
  · rw [upd_other _ _ (fun h => hpe h.symm)]; exact hs
  · rw [dist_nx hp he hpe]
    rw [dist_nx hp (nx_lt hp) (fun h => hnx h.symm), dist_self]; omega
  · intro a b x v u ha hb h1 h2
    have h1' : S a = some (x, v) := by unfold upd at h1; split at h1 <;> simp_all
    have h2' : S b = some (x, u) := by unfold upd at h2; split at h2 <;> simp_all
    exact I.uniq a b x v u ha hb h1' h2'
  · intro a x v ha h y hy hd
    have hap : a ≠ p := fun e' => by rw [e', upd_same] at h; simp at h
    rw [upd_other _ _ hap] at h
    by_cases hyp : y = p
    · right; refine ⟨hyp, ?_⟩
      rw [dist_nx hp (nx_lt hp) (fun h => hnx h.symm), dist_self]
      have := dist_pos hp ha (fun h => hap h.symm)
      omega
    · left; rw [upd_other _ _ hyp]; exact I.path a x v ha h y hy hd

/-- A key goes to the empty place: the empty place is its own from then on. -/
theorem Dst.move {n : Nat} {S : Tb α} {i k e : Nat} (D : Dst n S i k e) {x : Nat} {v : α} (hk : S k = some (x, v)) (hh : dist n i k ≤ dist n (home n x) k) :
    Dst n (upd (upd S i (S k)) k none) k (nx n k) e := by
  have hn : 0 < n := by have := D.li; omega
  have hke : k ≠ e := fun h => by rw [h, D.emp] at hk; simp at hk
  have hki : k ≠ i := fun h => D.ik h.symm
  have hnk : nx n k ≠ k := by have := D.li; have := D.ik; have := D.lk; unfold nx; split <;> omega
  have hxh := home_lt hn x
  have hik := dist_pos D.li D.lk D.ik
  refine ⟨D.lk, nx_lt D.lk, D.le, upd_same _ _ _, ?_, hke, fun h => hnk h.symm, ?_, ?_, ?_⟩
  · rw [upd_other _ _ (fun h => hke h.symm), upd_other _ _ (fun h => D.ie h.symm)]; exact D.emp
  · rw [dist_nx D.lk D.le hke]
    rw [dist_nx D.lk (nx_lt D.lk) (fun h => hnk h.symm), dist_self]; omega
  · have key : ∀ a y u, a < n → upd (upd S i (S k)) k none a = some (y, u) → ∃ b, b < n ∧ S b = some (y, u) ∧ (a = i ∧ b = k ∨ a ≠ i ∧ b = a ∧ a ≠ k) := by
      intro a y u ha h
      by_cases hak : a = k
      · rw [hak, upd_same] at h; simp at h
      · rw [upd_other _ _ hak] at h
        by_cases hai : a = i
        · rw [hai, upd_same] at h; exact ⟨k, D.lk, h, .inl ⟨hai, rfl⟩⟩
        · rw [upd_other _ _ hai] at h; exact ⟨a, ha, h, .inr ⟨hai, rfl, hak⟩⟩
    intro a b y u u' ha hb h1 h2
    obtain ⟨a', ha', h1', c1⟩ := key a y u ha h1
    obtain ⟨b', hb', h2', c2⟩ := key b y u' hb h2
    have := D.uniq a' b' y u u' ha' hb' h1' h2'
    rcases c1 with ⟨r1, r2⟩ | ⟨r1, r2, r3⟩ <;> rcases c2 with ⟨t1, t2⟩ | ⟨t1, t2, t3⟩
    · rw [r1, t1]
    · exact absurd (by rw [← t2, ← this, r2]) t3
    · exact absurd (by rw [← r2, this, t2]) r3
    · rw [← r2, ← t2]; exact this
  · intro a y u ha h z hz hd
    have hak : a ≠ k := fun e' => by rw [e', upd_same] at h; simp at h
    rw [upd_other _ _ hak] at h
    have d1 : dist n k (nx n k) = 1 := by rw [dist_nx D.lk (nx_lt D.lk) (fun h => hnk h.symm), dist_self]
    by_cases hzk : z = k
    · right; refine ⟨hzk, ?_⟩
      rw [d1]
      exact dist_pos D.lk ha (fun h => hak h.symm)
    · left
      rw [upd_other _ _ hzk]
      by_cases hzi : z = i
      · rw [hzi, upd_same, hk]; simp
      · rw [upd_other _ _ hzi]
        by_cases hai : a = i
        · rw [hai, upd_same, hk] at h
          simp at h
          obtain ⟨rfl, rfl⟩ := h
          rw [hai] at hd
          have hlt : dist n (home n x) z < dist n (home n x) k := by
            have := D.li; have := D.lk
            have := dc n (home n x) z; have := dc n (home n x) i; have := dc n (home n x) k; have := dc n i k; omega
          rcases D.path k x v D.lk hk z hz hlt with h' | ⟨h', _⟩
          · exact h'
          · exact absurd h' hzi
        · rw [upd_other _ _ hai] at h
          rcases D.path a y u ha h z hz hd with h' | ⟨h', _⟩
          · exact h'
          · exact absurd h' hzi

/-- It stays. -/
theorem Dst.stay {n : Nat} {S : Tb α} {i k e : Nat} (D : Dst n S i k e) {x : Nat} {v : α} (hk : S k = some (x, v)) (hh : ¬ dist n i k ≤ dist n (home n x) k) : Dst n S i (nx n k) e := by
  have hn : 0 < n := by have := D.li; omega
  have hke : k ≠ e := fun h => by rw [h, D.emp] at hk; simp at hk
  have hxh := home_lt hn x
  have hik := dist_pos D.li D.lk D.ik
  have h1 := D.li; have h2 := D.lk; have h3 := D.le; have h4 := D.way; have h5 := D.ie; have h6 := D.ik
  have hnk : i ≠ nx n k := by
    have := dc n i k; have := dc n k e; have := dc n i e; have := nc n k; omega
  have hw : dist n i (nx n k) = dist n i k + 1 := by
    have := dc n i k; have := dc n k e; have := dc n i e; have := nc n k; have := dc n i (nx n k); omega
  refine ⟨D.li, nx_lt D.lk, D.le, D.hole, D.emp, D.ie, hnk, ?_, D.uniq, ?_⟩
  · rw [hw]; rw [dist_nx D.lk D.le hke] at h4; omega
  · intro a y u ha h z hz hd
    rcases D.path a y u ha h z hz hd with h' | ⟨h', hle⟩
    · exact .inl h'
    · by_cases hak : a = k
      · exfalso
        rw [hak] at h hd
        rw [hk] at h
        simp at h
        obtain ⟨rfl, rfl⟩ := h
        rw [h'] at hd
        apply hh
        have := dc n (home n x) i; have := dc n (home n x) k; have := dc n i k; omega
      · right; refine ⟨h', ?_⟩
        rw [hw]
        have : dist n i a ≠ dist n i k := fun e' => hak (dist_inj ha D.lk D.li e')
        omega

/-- The end: nothing hangs on the empty place any more. -/
theorem Dst.done {n : Nat} {S : Tb α} {i k e : Nat} (D : Dst n S i k e) (hk : S k = none) : Inv n S := by
  have hn : 0 < n := by have := D.li; omega
  refine ⟨fun a y u ha h z hz hd => ?_, D.uniq⟩
  rcases D.path a y u ha h z hz hd with h' | ⟨h', hle⟩
  · exact h'
  · exfalso
    rw [h'] at hd
    have hak : a ≠ k := fun e' => by rw [e', hk] at h; simp at h
    have h1 := D.li; have h2 := D.lk; have h6 := D.ik; have hyh := home_lt hn y
    have : dist n i a ≠ dist n i k := fun e' => hak (dist_inj ha D.lk D.li e')
    have hlt : dist n (home n y) k < dist n (home n y) a := by
      have := dc n (home n y) i; have := dc n (home n y) k; have := dc n (home n y) a; have := dc n i k; have := dc n i a; omega
    rcases D.path a y u ha h k D.lk hlt with h'' | ⟨h'', _⟩
    · exact h'' hk
    · exact h6 h''.symm

theorem dropGo_inv {n : Nat} : ∀ f (S : Tb α) i k e, Dst n S i k e → dist n k e ≤ f → Inv n (dropGo n f S i k) ∧ dropGo n f S i k e = none := by
  intro f
  induction f with
  | zero =>
    intro S i k e D hd
    have : k = e := by have := D.lk; have := D.le; unfold dist at hd; split at hd <;> omega
    subst this
    exact ⟨D.done D.emp, D.emp⟩
  | succ f ih =>
    intro S i k e D hd
    unfold dropGo
    cases hk : S k with
    | none => exact ⟨D.done hk, D.emp⟩
    | some x =>
      obtain ⟨y, v⟩ := x
      have hke : k ≠ e := fun h => by rw [h, D.emp] at hk; simp at hk
      have hd' : dist n (nx n k) e ≤ f := by rw [dist_nx D.lk D.le hke] at hd; omega
      simp only []
      split
      · next h => have := ih _ _ _ e (D.move hk h) hd'; rw [hk] at this; exact this
      · next h => exact ih _ _ _ e (D.stay hk h) hd'

theorem dropAt_inv {n : Nat} {S : Tb α} (I : Inv n S) {p e : Nat} (hp : p < n) (he : e < n) (hs : S e = none) (hpe : p ≠ e) : Inv n (dropAt n S p) ∧ dropAt n S p e = none :=
  dropGo_inv n _ _ _ e (Dst.start I hp he hs hpe) (Nat.le_of_lt (dist_lt (nx_lt hp) he))

/-- What is in the table behind a drop: what was there, without that place's. -/
theorem dropGo_mem {n : Nat} : ∀ f (S : Tb α) i k e, Dst n S i k e → dist n k e ≤ f → ∀ x : Nat × α, (∃ p, p < n ∧ dropGo n f S i k p = some x) ↔ (∃ p, p < n ∧ S p = some x) := by
  intro f
  induction f with
  | zero => intro S i k e D hd x; exact Iff.rfl
  | succ f ih =>
    intro S i k e D hd x
    unfold dropGo
    cases hk : S k with
    | none => exact Iff.rfl
    | some y =>
      obtain ⟨y, v⟩ := y
      have hke : k ≠ e := fun h => by rw [h, D.emp] at hk; simp at hk
      have hd' : dist n (nx n k) e ≤ f := by rw [dist_nx D.lk D.le hke] at hd; omega
      simp only []
      split
      · next h =>
        have := ih _ _ _ e (D.move hk h) hd' x
        rw [hk] at this
        rw [this]
        constructor
        · rintro ⟨p, hp, h1⟩
          unfold upd at h1
          split at h1
          · simp at h1
          · split at h1
            · exact ⟨k, D.lk, by rw [hk]; exact h1⟩
            · exact ⟨p, hp, h1⟩
        · rintro ⟨p, hp, h1⟩
          by_cases hpk : p = k
          · refine ⟨i, D.li, ?_⟩
            rw [upd_other _ _ D.ik, upd_same, ← hk, ← hpk]; exact h1
          · have hpi : p ≠ i := fun e' => by rw [e', D.hole] at h1; simp at h1
            exact ⟨p, hp, by rw [upd_other _ _ hpk, upd_other _ _ hpi]; exact h1⟩
      · next h => exact ih _ _ _ e (D.stay hk h) hd' x

/-- How many places are taken. -/
def cnt : Nat → Tb α → Nat
  | 0, _ => 0
  | n + 1, S => cnt n S + (if (S n).isSome then 1 else 0)

theorem cnt_le (n : Nat) (S : Tb α) : cnt n S ≤ n := by
  induction n with
  | zero => simp [cnt]
  | succ n ih => unfold cnt; split <;> omega
theorem cnt_congr {n : Nat} {S S' : Tb α} (h : ∀ i, i < n → (S i).isSome = (S' i).isSome) : cnt n S = cnt n S' := by
  induction n with
  | zero => rfl
  | succ n ih => unfold cnt; rw [ih (fun i hi => h i (by omega)), h n (by omega)]
theorem cnt_none (n : Nat) : cnt n (fun _ => none : Tb α) = 0 := by
  induction n with
  | zero => rfl
  | succ n ih => unfold cnt; simp [ih]
theorem cnt_upd {n p : Nat} (S : Tb α) (x : Option (Nat × α)) (h : p < n) : cnt n (upd S p x) + (if (S p).isSome then 1 else 0) = cnt n S + (if x.isSome then 1 else 0) := by
  induction n with
  | zero => omega
  | succ n ih =>
    unfold cnt
    by_cases hp : p = n
    · rw [hp, upd_same]
      have : cnt n (upd S n x) = cnt n S := cnt_congr fun i hi => by rw [upd_other _ _ (by omega)]
      rw [this]; omega
    · rw [upd_other _ _ (fun e => hp e.symm)]
      have := ih (by omega)
      omega
theorem exists_empty {n : Nat} {S : Tb α} (h : cnt n S < n) : ∃ e, e < n ∧ S e = none := by
  induction n with
  | zero => omega
  | succ n ih =>
    unfold cnt at h
    cases hs : S n with
    | none => exact ⟨n, by omega, hs⟩
    | some x =>
      rw [hs] at h
      simp at h
      obtain ⟨e, h1, h2⟩ := ih (by omega)
      exact ⟨e, by omega, h2⟩
theorem cnt_move {n i k : Nat} {S : Tb α} (hi : i < n) (hk : k < n) (hik : i ≠ k) (h0 : S i = none) (h1 : S k ≠ none) : cnt n (upd (upd S i (S k)) k none) = cnt n S := by
  have a := cnt_upd (upd S i (S k)) none hk
  have b := cnt_upd S (S k) hi
  rw [upd_other _ _ (fun e => hik e.symm)] at a
  rw [h0] at b
  have : (S k).isSome = true := by cases h : S k with | none => exact absurd h h1 | some _ => rfl
  simp [this] at a b
  omega
theorem cnt_dropGo {n : Nat} : ∀ f (S : Tb α) i k e, Dst n S i k e → dist n k e ≤ f → cnt n (dropGo n f S i k) = cnt n S := by
  intro f
  induction f with
  | zero => intro S i k e D hd; rfl
  | succ f ih =>
    intro S i k e D hd
    unfold dropGo
    cases hk : S k with
    | none => rfl
    | some x =>
      obtain ⟨y, v⟩ := x
      have hke : k ≠ e := fun h => by rw [h, D.emp] at hk; simp at hk
      have hd' : dist n (nx n k) e ≤ f := by rw [dist_nx D.lk D.le hke] at hd; omega
      simp only []
      split
      · next h =>
        have a := ih _ _ _ e (D.move hk h) hd'
        rw [hk] at a
        rw [a, ← hk]; exact cnt_move D.li D.lk D.ik D.hole (by rw [hk]; simp)
      · next h => exact ih _ _ _ e (D.stay hk h) hd'
theorem cnt_dropAt {n : Nat} {S : Tb α} (I : Inv n S) {p e : Nat} (hp : p < n) (he : e < n) (hs : S e = none) (ht : S p ≠ none) : cnt n (dropAt n S p) + 1 = cnt n S := by
  have hpe : p ≠ e := fun h => ht (by rw [h]; exact hs)
  have a := cnt_dropGo n _ _ _ e (Dst.start I hp he hs hpe) (Nat.le_of_lt (dist_lt (nx_lt hp) he))
  have b := cnt_upd S none hp
  have : (S p).isSome = true := by cases h : S p with | none => exact absurd h ht | some _ => rfl
  simp [this] at b
  unfold dropAt
  omega
theorem cnt_putAt_new {n : Nat} {S : Tb α} {key : Nat} {v : α} (hn : 0 < n) (h : S (find n S key) = none) : cnt n (putAt n S key v) = cnt n S + 1 := by
  have b := cnt_upd S (some (key, v)) (find_lt hn S key)
  rw [h] at b; simpa [putAt] using b
theorem cnt_putAt_old {n : Nat} {S : Tb α} {key : Nat} {v : α} (hn : 0 < n) (h : S (find n S key) ≠ none) : cnt n (putAt n S key v) = cnt n S := by
  have b := cnt_upd S (some (key, v)) (find_lt hn S key)
  have : (S (find n S key)).isSome = true := by cases h' : S (find n S key) with | none => exact absurd h' h | some _ => rfl
  rw [this] at b; simpa [putAt] using b

end
end Winnow
