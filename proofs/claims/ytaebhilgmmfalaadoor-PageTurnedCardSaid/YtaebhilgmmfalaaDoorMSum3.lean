/- Merged texts: Wire3. -/
import Derived.Test.YtaebhilgmmfalaaDoorMSum

/- Chapter 1 in plain Lean: bits turned within 32 in a row give another remainder. -/
namespace Go.Proofs.YtaebhilgmmfalaaDoor

/-- bytes as one number, the first lowest -/
def num : List UInt8 → Nat
  | [] => 0
  | b :: l => b.toNat + 256 * num l

theorem crcN_add (a b x : Nat) : crcN (a + b) x = crcN b (crcN a x) := by
  induction a generalizing x with
  | zero => rw [Nat.zero_add]; rfl
  | succ a ih => rw [Nat.succ_add]; exact ih (crcBit x)

theorem add_xor8 (b m : Nat) (hb : b < 256) : b + 256 * m = b ^^^ (256 * m) := by
  have h := split8 (b + 256 * m)
  rwa [show (b + 256 * m) % 256 = b by omega, show (b + 256 * m) / 256 = m by omega] at h

theorem fold_num (l : List UInt8) : ∀ c, l.foldl crcStep c = crcN (8 * l.length) (c ^^^ num l) := by
  induction l with
  | nil => intro c; simp [num, crcN]
  | cons b l ih =>
    intro c
    rw [List.foldl_cons, ih, List.length_cons, Nat.mul_succ, Nat.add_comm, crcN_add, num, add_xor8 _ _ b.toNat_lt, ← Nat.xor_assoc, crcN_xor 8]
    congr 2
    exact (crcN_shift 8 _).symm

theorem crcN_zero (k : Nat) : crcN k 0 = 0 := by
  induction k with
  | zero => rfl
  | succ k ih => exact ih
theorem crcBit_ne {x : Nat} (h : x < 4294967296) (h0 : crcBit x = 0) : x = 0 := by
  unfold crcBit at h0
  split at h0
  · have e : x / 2 = 3988292384 := by
      have := congrArg (· ^^^ 3988292384) h0
      simpa [Nat.xor_assoc] using this
    omega
  · omega
theorem crcN_ne (k : Nat) : ∀ {x : Nat}, x < 4294967296 → crcN k x = 0 → x = 0 := by
  induction k with
  | zero => intro x _ h; exact h
  | succ k ih => intro x hx h; exact crcBit_ne hx (ih (crcBit_lt hx) h)
theorem xor_eq_zero {a b : Nat} : a ^^^ b = 0 ↔ a = b := by
  constructor
  · intro h
    have := congrArg (· ^^^ b) h
    simpa [Nat.xor_assoc] using this
  · rintro rfl; exact Nat.xor_self _

theorem numB_inj : ∀ {l l' : List UInt8}, l.length = l'.length → num l = num l' → l = l'
  | [], [], _, _ => rfl
  | [], _ :: _, h, _ => by simp at h
  | _ :: _, [], h, _ => by simp at h
  | a :: l, b :: l', h, e => by
    simp only [num] at e
    have ha := a.toNat_lt; have hb := b.toNat_lt
    have e1 : a.toNat = b.toNat := by omega
    have e2 : num l = num l' := by omega
    rw [UInt8.toNat_inj.1 e1, numB_inj (by simpa using h) e2]

/-- a bit turned in a byte is a bit turned in the number -/
theorem num_set : ∀ (l : List UInt8) (q r : Nat) (hq : q < l.length) (_hr : r < 8), num (l.set q (UInt8.ofNat (l[q].toNat ^^^ 2 ^ r))) = num l ^^^ 2 ^ (8 * q + r)
  | a :: l, 0, r, _, hr => by
    have h1 : a.toNat ^^^ 2 ^ r < 256 := Nat.xor_lt_two_pow (n := 8) a.toNat_lt (Nat.pow_lt_pow_right (by decide) hr)
    simp only [List.set_cons_zero, num, List.getElem_cons_zero, Nat.mul_zero, Nat.zero_add]
    rw [UInt8.toNat_ofNat', Nat.mod_eq_of_lt h1, add_xor8 _ _ h1, add_xor8 _ _ a.toNat_lt, Nat.xor_assoc, Nat.xor_comm (2 ^ r), Nat.xor_assoc]
  | a :: l, q + 1, r, hq, hr => by
    simp only [List.set_cons_succ, num, List.getElem_cons_succ]
    rw [num_set l q r (by simpa using hq) hr, add_xor8 _ _ a.toNat_lt, add_xor8 _ _ a.toNat_lt, Nat.xor_assoc]
    congr 1
    rw [show 8 * (q + 1) + r = 8 + (8 * q + r) by omega]
    generalize 8 * q + r = m
    rw [show (2 : Nat) ^ (8 + m) = 256 * 2 ^ m by rw [Nat.pow_add]]
    apply Nat.eq_of_testBit_eq
    intro i
    rw [Nat.testBit_xor, show (256 : Nat) = 2 ^ 8 from rfl, Nat.testBit_two_pow_mul, Nat.testBit_two_pow_mul, Nat.testBit_two_pow_mul, Nat.testBit_xor]
    by_cases h : 8 ≤ i <;> simp [h]

/-- the bits that so many rounds have turned: those of 'turns', from 'at' on, below n -/
def burst (a turns n : Nat) : Nat → Nat
  | 0 => 0
  | i + 1 => burst a turns n i ^^^ (if turns / 2 ^ i % 2 = 1 ∧ a + i < n then 2 ^ (a + i) else 0)
theorem burst_bit (a turns n i j : Nat) : (burst a turns n i).testBit j = (decide (a ≤ j) && decide (j < a + i) && decide (j < n) && turns.testBit (j - a)) := by
  induction i with
  | zero =>
    simp only [burst, Nat.zero_testBit, Nat.add_zero]
    by_cases h : a ≤ j
    · simp [Nat.not_lt.2 h]
    · simp [h]
  | succ i ih =>
    rw [burst, Nat.testBit_xor, ih]
    by_cases hj : j = a + i
    · subst hj
      have ht : turns.testBit i = decide (turns / 2 ^ i % 2 = 1) := Nat.testBit_eq_decide_div_mod_eq
      by_cases h1 : turns / 2 ^ i % 2 = 1 <;> by_cases h2 : a + i < n <;> simp [h1, h2, ht, Nat.testBit_two_pow_self]
    · have hz : (if turns / 2 ^ i % 2 = 1 ∧ a + i < n then 2 ^ (a + i) else 0).testBit j = false := by
        split
        · rw [Nat.testBit_two_pow]; simpa using fun h => hj h.symm
        · simp
      rw [hz, Bool.xor_false]
      have : decide (j < a + (i + 1)) = decide (j < a + i) := by rw [decide_eq_decide]; omega
      rw [this]
theorem burst_all (a turns n : Nat) (ht : turns < 4294967296) : burst a turns n 32 = 2 ^ a * (turns % 2 ^ (n - a)) := by
  apply Nat.eq_of_testBit_eq
  intro j
  rw [burst_bit, Nat.testBit_two_pow_mul, Nat.testBit_mod_two_pow]
  by_cases h : a ≤ j
  · simp only [h, decide_true, Bool.true_and]
    by_cases h2 : j < n
    · rw [decide_eq_true h2, decide_eq_true (show j - a < n - a by omega)]
      by_cases h3 : j < a + 32
      · simp [h3]
      · have : turns.testBit (j - a) = false := Nat.testBit_lt_two_pow (Nat.lt_of_lt_of_le ht (by
          rw [show (4294967296 : Nat) = 2 ^ 32 from rfl]
          exact Nat.pow_le_pow_right (by decide) (by omega)))
        simp [this]
    · simp [h2, show ¬ j - a < n - a by omega]
  · simp [h]

/-- where bits are turned within 32 in a row, the sum is another one -/
theorem burst_sum {s t : List UInt8} {a turns : Nat} (hl : t.length = s.length) (ht : turns < 4294967296) (h : num t = num s ^^^ burst a turns (8 * s.length) 32) (ha : a ≤ 8 * s.length) :
    (t = s) ↔ (crc t = crc s) := by
  constructor
  · rintro rfl; rfl
  · intro hc
    have h1 : crcRaw t = crcRaw s := by
      have := congrArg (· ^^^ 4294967295) hc
      simpa [crc, Nat.xor_assoc] using this
    unfold crcRaw at h1
    rw [fold_num, fold_num, hl] at h1
    have h2 := xor_eq_zero.2 h1
    rw [← crcN_xor, h] at h2
    have e : ∀ x y z : Nat, (x ^^^ (y ^^^ z)) ^^^ (x ^^^ y) = z := fun x y z => by
      rw [← Nat.xor_assoc x y z, Nat.xor_comm (x ^^^ y) z, Nat.xor_assoc z, Nat.xor_self, Nat.xor_zero]
    rw [e, burst_all _ _ _ ht] at h2
    have h3 : crcN (8 * s.length) (2 ^ a * (turns % 2 ^ (8 * s.length - a))) = crcN (8 * s.length - a) (turns % 2 ^ (8 * s.length - a)) := by
      conv => lhs; arg 1; rw [show 8 * s.length = a + (8 * s.length - a) by omega]
      rw [crcN_add, crcN_shift]
    rw [h3] at h2
    have h4 := crcN_ne _ (Nat.lt_of_le_of_lt (Nat.mod_le _ _) ht) h2
    rw [burst_all _ _ _ ht, h4, Nat.mul_zero, Nat.xor_zero] at h
    exact numB_inj hl h
end Go.Proofs.YtaebhilgmmfalaaDoor
