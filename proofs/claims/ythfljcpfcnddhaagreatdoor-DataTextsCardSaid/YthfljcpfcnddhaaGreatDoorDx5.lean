/- Plain: how long the text of a right record may be. -/
import Derived.Test.YthfljcpfcnddhaaGreatDoorDx0
import Derived.Test.YthfljcpfcnddhaaGreatDoorWk6
import Derived.Test.YthfljcpfcnddhaaGreatDoorDx4
namespace Go.Proofs.YthfljcpfcnddhaaGreatDoor
set_option linter.unusedVariables false
set_option linter.unusedSimpArgs false
open Go Go.RowKit

theorem valT_len {x : Val} (hx : okB x.k x = true) (h0 : -9223372036854775808 ≤ x.n) (h1 : x.n ≤ 9223372036854775807) : (valT x).length ≤ 302 := by
  have hok := (okB_iff x.k x).1 hx
  unfold valT
  split
  · unfold boolL; split <;> simp
  split
  · rename_i h4
    obtain ⟨-, hs⟩ := hok.text h4
    have h := quotL_len x.s.data.toList
    have : x.s.data.toList.length = x.s.size := by simp
    simp only [List.length_append, List.length_cons, List.length_nil]; omega
  split
  · rw [List.length_cons, hexU_len]; omega
  · by_cases hn : x.n < 0
    · obtain ⟨m, hm⟩ : ∃ m : Nat, x.n = -(m : Int) := ⟨x.n.natAbs, by omega⟩
      rw [hm, Lib.itoa_neg m (by omega), List.length_cons]
      have := dec_len20 m (by omega); omega
    · obtain ⟨m, hm⟩ : ∃ m : Nat, x.n = (m : Int) := ⟨x.n.toNat, by omega⟩
      rw [hm, Lib.itoa_nonneg m]
      have := dec_len20 m (by omega); omega
theorem join_lens (b : UInt8) (L : List (List UInt8)) : (Lib.join L [b]).length ≤ Lib.lens L + L.length := by
  cases L with
  | nil => simp [Lib.join_nil]
  | cons a r => rw [Lib.join_length]; simp only [List.length_cons, List.length_nil]; omega
theorem lens_cons (a : List UInt8) (r : List (List UInt8)) : Lib.lens (a :: r) = a.length + Lib.lens r := by
  simp only [Lib.lens, List.map_cons, List.sum_cons]
theorem lens_le (c : Nat) : ∀ (L : List (List UInt8)), (∀ x ∈ L, x.length + 1 ≤ c) → Lib.lens L + L.length ≤ L.length * c
  | [], _ => by simp [Lib.lens]
  | a :: r, h => by
    have ha := h a (List.mem_cons_self ..)
    have h2 := lens_le c r fun x hx => h x (List.mem_cons_of_mem _ hx)
    rw [lens_cons, List.length_cons, Nat.add_mul, Nat.one_mul]
    omega
theorem dtxtL_all (T : Val → List UInt8) (n : Nd) (p : List UInt8 → Prop) : ∀ (l : List Dt), (∀ x ∈ l, p (dtxt T n true x)) → ∀ y ∈ dtxtL T n l, p y
  | [], _ => by simp [dtxtL]
  | a :: r, h => by
    intro y hy
    simp only [dtxtL, List.mem_cons] at hy
    rcases hy with rfl | hy
    · exact h a (List.mem_cons_self ..)
    · exact dtxtL_all T n p r (fun x hx => h x (List.mem_cons_of_mem _ hx)) y hy
theorem dtxtF_lens (T : Val → List UInt8) (C : Nat) : ∀ (s : List Nd) (l : List Dt), (∀ (k : Nat) (m : Nd) (x : Dt), s[k]? = some m → l[k]? = some x → m.name.size + 2 + (dtxt T m false x).length ≤ C * size m) →
    Lib.lens (dtxtF T s l) + (dtxtF T s l).length ≤ C * sizeL s
  | [], _, _ => by simp [dtxtF, Lib.lens]
  | m :: t, [], _ => by simp [dtxtF, Lib.lens]
  | m :: t, a :: r, h => by
    have h0 := h 0 m a rfl rfl
    have h2 := dtxtF_lens T C t r fun k m' x hm hx => h (k + 1) m' x (by simpa using hm) (by simpa using hx)
    have hn : m.name.data.toList.length = m.name.size := by simp
    simp only [dtxtF, lens_cons, sizeL, List.length_append, List.length_cons, List.length_nil, Nat.mul_add]
    omega
theorem pow41_pos (k : Nat) : 1 ≤ 41 ^ k := Nat.pow_pos (by decide)
theorem dtxt_cap : ∀ (d : Dt) (n : Nd) (one : Bool), datE n one d = 0 → (∀ x ∈ nodesL n.sub, x.name.size ≤ 12) → (∀ x ∈ dts d, x.Ok1) →
    (dtxt valT n one d).length + 30 ≤ (if one = true then 1 else 41) * (400 * (size n * 41 ^ (hgt n - 1))) := by
  apply Dt.ind
  intro d IHl IHf n one h hN hD
  have hD0 := hD d (by rw [dts_eq]; exact List.mem_cons_self ..)
  have hDl : ∀ y ∈ d.l, ∀ x ∈ dts y, x.Ok1 := fun y hy x hx => hD x (by rw [dts_eq]; exact List.mem_cons_of_mem _ (List.mem_append_left _ (dtsL_mem hy hx)))
  have hDf : ∀ y ∈ d.f, ∀ x ∈ dts y, x.Ok1 := fun y hy x hx => hD x (by rw [dts_eq]; exact List.mem_cons_of_mem _ (List.mem_append_right _ (dtsL_mem hy hx)))
  rw [datE_eq] at h
  rw [dtxt_eq]
  have hp : 1 ≤ size n * 41 ^ (hgt n - 1) := Nat.mul_pos (size_pos n) (pow41_pos _)
  obtain ⟨P, hP⟩ : ∃ P, size n * 41 ^ (hgt n - 1) = P := ⟨_, rfl⟩
  have hone : 1 * (400 * P) ≤ (if one = true then 1 else 41) * (400 * P) := Nat.mul_le_mul_right _ (by split <;> omega)
  rw [Nat.one_mul] at hone
  rw [hP] at hp ⊢
  by_cases hno : d.no = true
  · rw [if_pos hno]; simp only [List.length_cons, List.length_nil]; omega
  rw [if_neg hno]
  by_cases hr : (!one && decide (n.rep = 3)) = true
  · rw [if_pos hr]
    have hof : one = false := by cases one <;> simp_all
    subst hof
    have hr3 : n.rep = 3 := by simpa using hr
    rw [if_neg (by simp [hno]), if_neg hno, if_pos hr] at h
    split at h
    · omega
    · split at h
      · omega
      · rename_i h40
        have hz := datEL_zero n d.l h
        have h1 := dtxtL_all valT n (fun y => y.length + 1 ≤ 400 * P) d.l fun x hx => by
          have := IHl x hx n true (hz x hx) hN (hDl x hx)
          rw [hP] at this
          simp only [if_true, Nat.one_mul] at this
          omega
        have h2 := lens_le _ _ h1
        have h3 := join_lens 44 (dtxtL valT n d.l)
        have h4 : (dtxtL valT n d.l).length * (400 * P - 29) ≤ 40 * (400 * P - 29) := Nat.mul_le_mul_right _ (by rw [dtxtL_len]; omega)
        have h5 := lens_le (400 * P - 29) (dtxtL valT n d.l) (dtxtL_all valT n (fun y => y.length + 1 ≤ 400 * P - 29) d.l fun x hx => by
          have := IHl x hx n true (hz x hx) hN (hDl x hx)
          rw [hP] at this
          simp only [if_true, Nat.one_mul] at this
          omega)
        simp only [List.length_append, List.length_cons, List.length_nil, Bool.false_eq_true, if_false]
        omega
  · rw [if_neg hr]
    refine Nat.le_trans ?_ hone
    rw [if_neg (by simp [hno]), if_neg hno, if_neg hr] at h
    split at h
    · omega
    by_cases hk : n.kind = 0
    · rw [if_neg (by simpa using hk)]
      rw [if_neg (by simpa using hk)] at h
      split at h
      · omega
      have hz := datEF_zero _ _ h
      have hh : hgt n - 1 = hgtL n.sub := by rw [hgt_eq]; omega
      have h1 := dtxtF_lens valT (400 * 41 ^ hgtL n.sub) n.sub d.f fun k m x hm hx => by
        have hmm := List.mem_of_getElem? hm
        have hxm := List.mem_of_getElem? hx
        have hmn : m.name.size ≤ 12 := hN m (nodesL_mem hmm (by rw [nodes_eq]; exact List.mem_cons_self ..))
        have h2 := IHf x hxm m false (hz k m x hm hx) (fun z hz => hN z (nodesL_mem hmm (by rw [nodes_eq]; exact List.mem_cons_of_mem _ hz))) (hDf x hxm)
        have h3 : hgt m ≤ hgtL n.sub := hgt_le_L hm
        have h4 := hgt_pos m
        have h5 : 41 * (400 * (size m * 41 ^ (hgt m - 1))) = 400 * (size m * 41 ^ (hgt m)) := by
          obtain ⟨q, hq⟩ : ∃ q, hgt m = q + 1 := ⟨hgt m - 1, by omega⟩
          rw [hq, Nat.add_sub_cancel, Nat.pow_succ]
          simp only [Nat.mul_comm, Nat.mul_left_comm, Nat.mul_assoc]
        simp only [Bool.false_eq_true, if_false] at h2
        rw [h5] at h2
        have h6 : size m * 41 ^ (hgt m) ≤ size m * 41 ^ (hgtL n.sub) := Nat.mul_le_mul_left _ (Nat.pow_le_pow_right (by decide) h3)
        have h7 : 400 * 41 ^ hgtL n.sub * size m = 400 * (size m * 41 ^ (hgtL n.sub)) := by rw [Nat.mul_assoc, Nat.mul_comm (41 ^ _)]
        rw [h7]
        omega
      have h3 := join_lens 44 (dtxtF valT n.sub d.f)
      have hP2 : P = 41 ^ hgtL n.sub + sizeL n.sub * 41 ^ hgtL n.sub := by rw [← hP, hh, size_eq, Nat.add_mul, Nat.one_mul]
      have h7 : 400 * 41 ^ hgtL n.sub * sizeL n.sub = 400 * (sizeL n.sub * 41 ^ (hgtL n.sub)) := by rw [Nat.mul_assoc, Nat.mul_comm (41 ^ _)]
      have h8 := pow41_pos (hgtL n.sub)
      rw [h7] at h1
      simp only [List.length_append, List.length_cons, List.length_nil]
      omega
    · rw [if_pos hk]
      rw [if_pos (by simpa using hk)] at h
      have hok : okB n.kind d.v = true := by
        repeat' split at h
        all_goals first | assumption | omega
      have hkk := ((okB_iff _ _).1 hok).k
      have h9 := valT_len (x := d.v) (by rw [hkk]; exact hok) hD0.v.n0 (by have := hD0.v.n1; omega)
      omega
theorem dtxt_cap2 {n : Nd} {d : Dt} (h : datE n false d = 0) (hN : ∀ x ∈ nodesL n.sub, x.name.size ≤ 12) (hD : ∀ x ∈ dts d, x.Ok1) (hs : size n ≤ 40) (hh : hgt n ≤ 6) : (dtxt valT n false d).length ≤ 100000000000000 := by
  have h1 := dtxt_cap d n false h hN hD
  simp only [Bool.false_eq_true, if_false] at h1
  have h2 : 41 ^ (hgt n - 1) ≤ 41 ^ 5 := Nat.pow_le_pow_right (by decide) (by omega)
  have h3 : size n * 41 ^ (hgt n - 1) ≤ 40 * 41 ^ 5 := Nat.mul_le_mul hs h2
  have h4 : 41 * (400 * (40 * 41 ^ 5)) ≤ 100000000000000 := by decide
  omega
end Go.Proofs.YthfljcpfcnddhaaGreatDoor
