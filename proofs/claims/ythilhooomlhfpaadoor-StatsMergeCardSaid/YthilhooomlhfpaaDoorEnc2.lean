/- Chapter 3 in plain Lean: values, plain, as bytes; what the bytes tell. -/
import Derived.Test.YthilhooomlhfpaaDoorEncW3
import Derived.Test.YthilhooomlhfpaaDoorBits3
import Derived.Test.YthilhooomlhfpaaDoorWire4
import Derived.Test.YthilhooomlhfpaaDoorCode
namespace Go.Proofs.YthilhooomlhfpaaDoor
open Go

/-- OK's answer -/
def okB (kind : Int) (x : Val) : Bool :=
  decide (x.k = kind) && (if kind = 4 then decide (x.n = 0) && decide (x.s.size ≤ 100) else decide (x.s.size = 0) && (!decide (kind = 1) || (decide (0 ≤ x.n) && decide (x.n ≤ 1))) && (!decide (kind = 2) || (decide (-2147483648 ≤ x.n) && decide (x.n ≤ 2147483647))))
theorem okB_iff (kind : Int) (x : Val) : okB kind x = true ↔ OkP kind x := by
  unfold okB
  constructor
  · intro h
    rw [Bool.and_eq_true, decide_eq_true_eq] at h
    obtain ⟨hk, h⟩ := h
    by_cases c : kind = 4
    · rw [if_pos c] at h
      simp only [Bool.and_eq_true, decide_eq_true_eq] at h
      exact ⟨hk, fun _ => h, fun d => absurd c d, fun d => by omega, fun d => by omega⟩
    · rw [if_neg c] at h
      simp only [Bool.and_eq_true, decide_eq_true_eq, Bool.or_eq_true, Bool.not_eq_true', decide_eq_false_iff_not] at h
      obtain ⟨⟨h1, h2⟩, h3⟩ := h
      exact ⟨hk, fun d => absurd d c, fun _ => h1, fun d => h2.resolve_left (fun e => e d), fun d => h3.resolve_left (fun e => e d)⟩
  · intro h
    rw [Bool.and_eq_true, decide_eq_true_eq]
    refine ⟨h.k, ?_⟩
    by_cases c : kind = 4
    · rw [if_pos c]
      simpa using h.text c
    · rw [if_neg c]
      simp only [Bool.and_eq_true, decide_eq_true_eq, Bool.or_eq_true, Bool.not_eq_true', decide_eq_false_iff_not]
      refine ⟨⟨h.num c, ?_⟩, ?_⟩
      · by_cases d : kind = 1
        · exact .inr (h.bool d)
        · exact .inl d
      · by_cases d : kind = 2
        · exact .inr (h.int d)
        · exact .inl d
theorem okB_false (kind : Int) (x : Val) : okB kind x = false ↔ ¬ OkP kind x := by
  rw [← okB_iff, Bool.not_eq_true]

/-- what Check tells -/
def badAt (kind : Int) : List Val → Nat → Option Nat
  | [], _ => none
  | x :: l, i => if okB kind x then badAt kind l (i + 1) else some i
def valsErr (kind : Int) (l : List Val) : GErr :=
  if kind < 1 ∨ 5 < kind then .sent 4 else if 20000 < l.length then .sent 2 else match badAt kind l 0 with
  | none => .nil
  | some i => .fault 4 (i : Nat)
theorem badAt_none (kind : Int) : ∀ (l : List Val) (i : Nat), badAt kind l i = none ↔ ∀ x ∈ l, OkP kind x
  | [], _ => by simp [badAt]
  | a :: l, i => by
    have ih := badAt_none kind l (i + 1)
    unfold badAt
    by_cases h : okB kind a = true
    · rw [if_pos h, ih]
      simp [(okB_iff kind a).1 h]
    · rw [if_neg h]
      simp only [reduceCtorEq, List.mem_cons, forall_eq_or_imp, false_iff, not_and]
      intro h'
      exact absurd ((okB_iff kind a).2 h') h
theorem badAt_some (kind : Int) : ∀ (l : List Val) (i j : Nat), badAt kind l i = some j → ∃ q x, j = i + q ∧ l[q]? = some x ∧ ¬ OkP kind x ∧ ∀ p y, p < q → l[p]? = some y → OkP kind y
  | [], _, _, h => by simp [badAt] at h
  | a :: l, i, j, h => by
    unfold badAt at h
    by_cases ha : okB kind a = true
    · rw [if_pos ha] at h
      obtain ⟨q, x, h1, h2, h3, h4⟩ := badAt_some kind l (i + 1) j h
      refine ⟨q + 1, x, by omega, by simpa using h2, h3, fun p y hp hy => ?_⟩
      cases p with
      | zero => simp at hy; subst hy; exact (okB_iff kind a).1 ha
      | succ p => exact h4 p y (by omega) (by simpa using hy)
    · rw [if_neg ha] at h
      obtain rfl := Option.some.inj h
      exact ⟨0, a, rfl, rfl, fun h' => ha ((okB_iff kind a).2 h'), fun p y hp => by omega⟩

theorem valsErr_nil {kind : Int} {l : List Val} (h : valsErr kind l = .nil) : 1 ≤ kind ∧ kind ≤ 5 ∧ l.length ≤ 20000 ∧ ∀ x ∈ l, OkP kind x := by
  unfold valsErr at h
  split at h
  · cases h
  · split at h
    · cases h
    · split at h
      · exact ⟨by omega, by omega, by omega, (badAt_none kind l 0).1 ‹_›⟩
      · cases h
def wdOf (kind : Int) : Nat := if kind = 1 then 1 else if kind = 2 then 32 else 64
theorem wdOf_is {kind : Int} (h1 : 1 ≤ kind) (h5 : kind ≤ 5) (h4 : kind ≠ 4) : WdOf kind (wdOf kind) := by
  unfold WdOf wdOf
  split
  · exact .inl ⟨‹_›, rfl⟩
  · split
    · exact .inr (.inl ⟨‹_›, rfl⟩)
    · by_cases h : kind = 3
      · exact .inr (.inr (.inl ⟨h, rfl⟩))
      · exact .inr (.inr (.inr ⟨by omega, rfl⟩))
theorem wdOf_le (kind : Int) : wdOf kind ≤ 64 := by unfold wdOf; split <;> (try split) <;> omega
/-- values, plain -/
def textsB (l : List Val) : List UInt8 := l.flatMap fun x => textOf x.s.data.toList
def plainB (kind : Int) (l : List Val) : List UInt8 := if kind = 4 then textsB l else packed (wdOf kind) (numsOf (wdOf kind) l)

theorem packed_inj (wd : Nat) (a b : List Nat) (ha : ∀ n ∈ a, n < 2 ^ wd) (hb : ∀ n ∈ b, n < 2 ^ wd) (hl : a.length = b.length) (h : packed wd a = packed wd b) : a = b := by
  have h1 := getAll_packed wd a ha []
  have h2 := getAll_packed wd b hb []
  rw [h, hl] at h1
  exact h1.symm.trans h2
theorem num_inj {kind : Int} {x y : Val} (hx : x.Ok) (hy : y.Ok) (px : OkP kind x) (py : OkP kind y) (h4 : kind ≠ 4) (h : uN x % 2 ^ wdOf kind = uN y % 2 ^ wdOf kind) : x = y := by
  obtain ⟨xk, xn, xs⟩ := x
  obtain ⟨yk, yn, ys⟩ := y
  have e1 := empty_list (px.num h4)
  have e2 := empty_list (py.num h4)
  have e3 := px.k
  have e4 := py.k
  have b1 := px.bool
  have b2 := py.bool
  have i1 := px.int
  have i2 := py.int
  have o1 := hx.n0
  have o2 := hx.n1
  have o3 := hy.n0
  have o4 := hy.n1
  simp only at e1 e2 e3 e4 b1 b2 i1 i2 o1 o2 o3 o4
  subst e1 e2 e3
  obtain rfl : yk = xk := e4
  have : xn = yn := by
    unfold wdOf uN at h
    simp only at h
    by_cases c1 : yk = 1
    · rw [if_pos c1] at h
      have := b1 c1
      have := b2 c1
      simp only [Nat.pow_one] at h
      omega
    · rw [if_neg c1] at h
      by_cases c2 : yk = 2
      · rw [if_pos c2] at h
        have := i1 c2
        have := i2 c2
        have e : (2 : Nat) ^ 32 = 4294967296 := by decide
        rw [e] at h
        omega
      · rw [if_neg c2] at h
        have e : (2 : Nat) ^ 64 = 18446744073709551616 := by decide
        rw [e] at h
        omega
  rw [this]
theorem nums_inj {kind : Int} (h4 : kind ≠ 4) : ∀ (a b : List Val), (∀ x ∈ a, x.Ok) → (∀ x ∈ b, x.Ok) → (∀ x ∈ a, OkP kind x) → (∀ x ∈ b, OkP kind x) → numsOf (wdOf kind) a = numsOf (wdOf kind) b → a = b
  | [], [], _, _, _, _, _ => rfl
  | [], _ :: _, _, _, _, _, h => by simp [numsOf] at h
  | _ :: _, [], _, _, _, _, h => by simp [numsOf] at h
  | x :: a, y :: b, oa, ob, pa, pb, h => by
    simp only [numsOf, List.map_cons, List.cons.injEq] at h
    have e := num_inj (oa x (by simp)) (ob y (by simp)) (pa x (by simp)) (pb y (by simp)) h4 h.1
    have e2 := nums_inj h4 a b (fun z hz => oa z (by simp [hz])) (fun z hz => ob z (by simp [hz])) (fun z hz => pa z (by simp [hz])) (fun z hz => pb z (by simp [hz])) h.2
    rw [e, e2]
theorem text_val {x y : Val} (px : OkP 4 x) (py : OkP 4 y) (h : x.s.data.toList = y.s.data.toList) : x = y := by
  obtain ⟨xk, xn, ⟨⟨xs⟩⟩⟩ := x
  obtain ⟨yk, yn, ⟨⟨ys⟩⟩⟩ := y
  have e3 := px.k
  have e4 := py.k
  have e1 := (px.text rfl).1
  have e2 := (py.text rfl).1
  simp only at e1 e2 e3 e4 h
  subst e1 e2 e3 e4 h
  rfl
theorem size_data (s : ByteArray) : s.data.toList.length = s.size := by simp
theorem texts_inj : ∀ (a b : List Val), (∀ x ∈ a, OkP 4 x) → (∀ x ∈ b, OkP 4 x) → a.length = b.length → textsB a = textsB b → a = b
  | [], [], _, _, _, _ => rfl
  | [], _ :: _, _, _, h, _ => by simp at h
  | _ :: _, [], _, _, h, _ => by simp at h
  | x :: a, y :: b, pa, pb, hl, h => by
    simp only [textsB, List.flatMap_cons] at h
    have qx := pa x (by simp)
    have qy := pb y (by simp)
    have s1 := (qx.text rfl).2
    have s2 := (qy.text rfl).2
    have r1 := readT_text x.s.data.toList (a.flatMap fun x => textOf x.s.data.toList) (by rw [size_data]; omega)
    have r2 := readT_text y.s.data.toList (b.flatMap fun x => textOf x.s.data.toList) (by rw [size_data]; omega)
    rw [h, r2] at r1
    have e := (Option.some.inj r1)
    simp only [Prod.mk.injEq] at e
    have exy := text_val qx qy e.1.symm
    subst exy
    have := List.append_cancel_left h
    rw [texts_inj a b (fun z hz => pa z (by simp [hz])) (fun z hz => pb z (by simp [hz])) (by simpa using hl) this]
/-- the same plain bytes: the same values -/
theorem plain_inj {kind : Int} (a b : List Val) (oa : ∀ x ∈ a, x.Ok) (ob : ∀ x ∈ b, x.Ok) (pa : ∀ x ∈ a, OkP kind x) (pb : ∀ x ∈ b, OkP kind x) (hl : a.length = b.length) (h : plainB kind a = plainB kind b) : a = b := by
  unfold plainB at h
  by_cases h4 : kind = 4
  · subst h4
    rw [if_pos rfl, if_pos rfl] at h
    exact texts_inj a b pa pb hl h
  · rw [if_neg h4, if_neg h4] at h
    exact nums_inj h4 a b oa ob pa pb (packed_inj _ _ _ (numsOf_lt _ _) (numsOf_lt _ _) (by simpa [numsOf] using hl) h)
end Go.Proofs.YthilhooomlhfpaaDoor
