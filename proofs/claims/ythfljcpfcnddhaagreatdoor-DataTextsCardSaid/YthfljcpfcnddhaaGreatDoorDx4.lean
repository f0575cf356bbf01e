/- The document's text of a value: plain, and its walk. -/
import Derived.Test.YthfljcpfcnddhaaGreatDoorDx1
import Derived.IntWalk
import Derived.Lib.ItoaMem
namespace Go.Proofs.YthfljcpfcnddhaaGreatDoor
set_option linter.unusedVariables false
set_option linter.unusedSimpArgs false
open Go Go.RowKit Go.ChangeShapes

def hexd (n : Nat) : UInt8 := [48, 49, 50, 51, 52, 53, 54, 55, 56, 57, 97, 98, 99, 100, 101, 102].getD n 0
/-- a byte of a text that is not printed as it is -/
def escB (c : Nat) : Bool := decide (c < 32) || decide (126 < c) || decide (c = 34) || decide (c = 92)
def qesc (c : UInt8) : List UInt8 := if escB c.toNat = true then [92, hexd (c.toNat / 16), hexd (c.toNat % 16)] else [c]
def quotL : List UInt8 → List UInt8
  | [] => []
  | c :: r => qesc c ++ quotL r
/-- k hex digits -/
def hexU : Nat → Nat → List UInt8
  | 0, _ => []
  | k + 1, u => hexU k (u / 16) ++ [hexd (u % 16)]
def boolL (n : Int) : List UInt8 := if n = 1 then [116, 114, 117, 101] else [102, 97, 108, 115, 101]
/-- the text of a value -/
def valT (x : Val) : List UInt8 :=
  if x.k = 1 then boolL x.n
  else if x.k = 4 then [34] ++ quotL x.s.data.toList ++ [34]
  else if x.k = 5 then 120 :: hexU 16 (x.n % 18446744073709551616).toNat
  else Lib.itoa x.n

theorem quotL_app (a b : List UInt8) : quotL (a ++ b) = quotL a ++ quotL b := by
  induction a with
  | nil => rfl
  | cons c r ih => rw [List.cons_append, quotL, quotL, ih, List.append_assoc]
theorem quotL_take {l : List UInt8} {k : Nat} {c : UInt8} (h : l[k]? = some c) : quotL (l.take (k + 1)) = quotL (l.take k) ++ qesc c := by
  rw [List.take_add_one, h, quotL_app]
  simp [quotL]
theorem qesc_len (c : UInt8) : (qesc c).length ≤ 3 := by unfold qesc; split <;> simp
theorem quotL_len (l : List UInt8) : (quotL l).length ≤ 3 * l.length := by
  induction l with
  | nil => simp [quotL]
  | cons c r ih => rw [quotL, List.length_append, List.length_cons]; have := qesc_len c; omega
theorem hexU_len (k u : Nat) : (hexU k u).length = k := by
  induction k generalizing u with
  | zero => rfl
  | succ k ih => rw [hexU, List.length_append, ih]; rfl

theorem dec_len : ∀ (k u : Nat), u < 10 ^ (k + 1) → (Lib.decDigits u).length ≤ k + 1
  | 0, u, h => by rw [Lib.decDigits, dif_pos (by omega)]; simp
  | k + 1, u, h => by
    rw [Lib.decDigits]
    split
    · simp
    · rw [List.length_append]
      have := dec_len k (u / 10) (by rw [Nat.pow_succ] at h; omega)
      simp only [List.length_cons, List.length_nil]; omega
theorem dec_len20 (u : Nat) (h : u ≤ 9223372036854775808) : (Lib.decDigits u).length ≤ 20 := by
  have h2 : (10 : Nat) ^ (19 + 1) = 100000000000000000000 := by decide
  exact dec_len 19 u (by rw [h2]; omega)

set_option maxHeartbeats 4000000 in
theorem hexDigit_any (n : Nat) (h : n < 16) (w : World) :
    Calls Tryz.prog 76 #[.int .i64 n] w fun e w' => e = .returned (.string ⟨[hexd n].toArray⟩) ∧ w' = w := by
  have hn : n = 0 ∨ n = 1 ∨ n = 2 ∨ n = 3 ∨ n = 4 ∨ n = 5 ∨ n = 6 ∨ n = 7 ∨ n = 8 ∨ n = 9 ∨ n = 10 ∨ n = 11 ∨ n = 12 ∨ n = 13 ∨ n = 14 ∨ n = 15 := by omega
  rcases hn with rfl | rfl | rfl | rfl | rfl | rfl | rfl | rfl | rfl | rfl | rfl | rfl | rfl | rfl | rfl | rfl
  all_goals
    go_enter Tryz.func76, Tryz.ntmps76
    go_wp2
    go_ret
    exact ⟨rfl, rfl⟩

set_option maxHeartbeats 400000 in
theorem byteR_any (n : Int) (w : World) :
    Calls Tryz.prog 75 #[.int .i64 n] w fun e w' => e = .returned (.string ⟨[UInt8.ofNat (n % 256).toNat].toArray⟩) ∧ Below w.heap.size w w' := by
  have hs := run_lit_string (P := Tryz.prog) (src := 130) (dst := 9) w (n % 256) Tryz.underlying130 Tryz.underlying5 Tryz.underlying9 (by omega) (by omega)
  go_enter Tryz.func75, Tryz.ntmps75
  go_wp2
  go_ret
  exact ⟨rfl, (Below.refl _ _).alloc (Nat.le_refl _) _⟩

set_option maxRecDepth 100000 in
set_option maxHeartbeats 4000000 in
theorem below_any : ∀ (m : Nat), m ≤ 9223372036854775808 → ∀ (w : World), Calls Tryz.prog 106 #[.int .i64 (-(m : Int))] w (TextRet (Lib.decDigits m) w) := by
  intro m
  induction m using Nat.strongRecOn with
  | _ m ih =>
  intro hm w
  by_cases hlt : m < 10
  · have d1 : decide ((-10 : Int) < -(m : Int)) = true := decide_eq_true (by omega)
    have e1 : UInt8.ofNat ((48 - -(m : Int)) % 256).toNat = UInt8.ofNat (48 + m) := by congr 1; omega
    go_enter Tryz.func106, Tryz.ntmps106
    go_wp2_with (go_at_call 75; refine (byteR_any _ _).mono ?_; rintro e w1 ⟨rfl, hb1⟩)
    go_ret
    refine ⟨?_, hb1⟩
    rw [Lib.decDigits_one hlt, ← e1]
    show Ending.returned (.string ⟨[UInt8.ofNat ((48 + (m : Int)) % 256).toNat].toArray⟩) = _
    rw [show (48 - -(m : Int)) = 48 + (m : Int) by omega]
    rfl
  · have d1 : decide ((-10 : Int) < -(m : Int)) = false := decide_eq_false (by omega)
    have hi := ih (m / 10) (by omega) (by omega)
    have hs1 : ¬ 9223372036854775807 < (Lib.decDigits (m / 10)).length + 1 := by have := dec_len20 (m / 10) (by omega); omega
    have e1 : UInt8.ofNat ((48 - -((m % 10 : Nat) : Int)) % 256).toNat = UInt8.ofNat (48 + m % 10) := by congr 1; omega
    have e2 : (-(m : Int)).tdiv 10 = -((m / 10 : Nat) : Int) := by rw [Int.neg_tdiv, Int.tdiv_eq_ediv_of_nonneg (by omega)]; omega
    have e3 : (-(m : Int)).tmod 10 = -((m % 10 : Nat) : Int) := by rw [Int.neg_tmod, Int.tmod_eq_emod_of_nonneg (by omega)]; omega
    go_enter Tryz.func106, Tryz.ntmps106
    go_wp2_with fail
    rw [show (-((m : Int) / 10)) = -((m / 10 : Nat) : Int) by omega]
    refine (hi _).mono ?_; rintro e w1 ⟨rfl, hb1⟩
    go_wp2_with fail
    rw [show (48 + (m : Int) % 10) = 48 - -((m % 10 : Nat) : Int) by omega]
    refine (byteR_any _ _).mono ?_; rintro e w2 ⟨rfl, hb2⟩
    unfold strV
    go_wp2_with fail
    go_ret
    refine ⟨?_, hb1.trans (hb2.mono hb1.size)⟩
    rw [show Lib.decDigits m = Lib.decDigits (m / 10) ++ [UInt8.ofNat (48 + m % 10)] from by rw [Lib.decDigits, dif_neg hlt]]
    exact congrArg (fun s => Ending.returned (.string s)) ((by rw [show (48 + m % 10) % 256 = 48 + m % 10 by omega] : _ = _).trans (ba_app _ [UInt8.ofNat (48 + m % 10)]))

set_option maxRecDepth 100000 in
set_option maxHeartbeats 4000000 in
theorem decimal_any (n : Int) (h0 : -9223372036854775808 ≤ n) (h1 : n ≤ 9223372036854775807) (w : World) : Calls Tryz.prog 77 #[.int .i64 n] w (TextRet (Lib.itoa n) w) := by
  by_cases hn : n < 0
  · obtain ⟨m, rfl⟩ : ∃ m : Nat, n = -(m : Int) := ⟨n.natAbs, by omega⟩
    have hi := below_any m (by omega)
    have d1 : decide (-(m : Int) < 0) = true := decide_eq_true hn
    have hs1 : ¬ 9223372036854775807 < 1 + (Lib.decDigits m).length := by have := dec_len20 m (by omega); omega
    rw [Lib.itoa_neg m (by omega)]
    go_enter Tryz.func77, Tryz.ntmps77
    go_wp2_with fail
    refine (hi _).mono ?_; rintro e w1 ⟨rfl, hb1⟩
    unfold strV
    go_wp2_with fail
    go_ret
    exact ⟨congrArg (fun s => Ending.returned (.string s)) (ba_app [45] (Lib.decDigits m)), hb1⟩
  · obtain ⟨m, rfl⟩ : ∃ m : Nat, n = (m : Int) := ⟨n.toNat, by omega⟩
    have hi := below_any m (by omega)
    have d1 : decide ((m : Int) < 0) = false := decide_eq_false hn
    rw [Lib.itoa_nonneg m]
    go_enter Tryz.func77, Tryz.ntmps77
    go_wp2_with fail
    refine (hi _).mono ?_; rintro e w1 ⟨rfl, hb1⟩
    go_wp2_with fail
    go_ret
    exact ⟨rfl, hb1⟩

/- FROM HERE BY gen_dx4.py -/
theorem escB_true {c : Nat} (h : c < 32 ∨ 126 < c ∨ c = 34 ∨ c = 92) : escB c = true := by
  unfold escB; rcases h with h | h | h | h <;> simp [h]
theorem escB_false {c : Nat} (h : ¬ (c < 32 ∨ 126 < c ∨ c = 34 ∨ c = 92)) : escB c = false := by
  unfold escB; simp; omega

set_option maxRecDepth 100000 in
set_option maxHeartbeats 16000000 in
theorem vt_bool (x : Val) (hx : okB x.k x = true) (hn0 : -9223372036854775808 ≤ x.n) (hn1 : x.n ≤ 9223372036854775807) (w : World) (h1 : x.k = 1) : Calls Tryz.prog 41 #[.agg (valA x)] w (TextRet (valT x) w) := by
  have hok := (okB_iff x.k x).1 hx
  have HW := Lib.hid ((Below.refl w.heap.size w).alloc (Nat.le_refl _) (.cells (valA x) 26))
  unfold valT
  · have dk : ((x.k : Int) == 1) = true := by rw [h1]; rfl
    obtain ⟨b, hb⟩ : ∃ b, decide (x.n = 1) = b := ⟨_, rfl⟩
    have d1 : ((x.n : Int) == 1) = b := by
      rw [← hb]
      by_cases h : x.n = 1
      · rw [h]; rfl
      · rw [decide_eq_false h]; simpa using h
    have hT : boolL x.n = if b = true then [116, 114, 117, 101] else [102, 97, 108, 115, 101] := by
      unfold boolL; rw [← hb]; simp
    rw [if_pos h1, hT]
    unfold valA at *
    clear h1 hT hok hx hb
    cases b with
    | true =>
      go_enter Tryz.func41, Tryz.ntmps41
      go_wp2_with fail
      go_ret
      exact ⟨rfl, HW.out⟩
    | false =>
      go_enter Tryz.func41, Tryz.ntmps41
      go_wp2_with fail
      go_ret
      exact ⟨rfl, HW.out⟩

set_option maxRecDepth 100000 in
set_option maxHeartbeats 16000000 in
theorem vt_text (x : Val) (hx : okB x.k x = true) (hn0 : -9223372036854775808 ≤ x.n) (hn1 : x.n ≤ 9223372036854775807) (w : World) (h1 : ¬ x.k = 1) (h4 : x.k = 4) : Calls Tryz.prog 41 #[.agg (valA x)] w (TextRet (valT x) w) := by
  have hok := (okB_iff x.k x).1 hx
  have HW := Lib.hid ((Below.refl w.heap.size w).alloc (Nat.le_refl _) (.cells (valA x) 26))
  unfold valT
  have dk1 : ((x.k : Int) == 1) = false := by simpa using h1
  rw [if_neg h1]
  · have dk : ((x.k : Int) == 4) = true := by rw [h4]; rfl
    obtain ⟨-, hs100⟩ := hok.text h4
    rw [if_pos h4]
    unfold valA at *
    obtain ⟨xs, hxs⟩ : ∃ xs, x.s = xs := ⟨_, rfl⟩
    rw [hxs] at HW hs100 ⊢
    have hsz : xs.data.toList.length = xs.size := by simp
    obtain ⟨R, hR⟩ : ∃ R, [34] ++ quotL xs.data.toList ++ [34] = R := ⟨_, rfl⟩
    have hql : ∀ k, (quotL (xs.data.toList.take k)).length ≤ 300 := by
      intro k
      have h := quotL_len (xs.data.toList.take k)
      have h2 := List.length_take_le k xs.data.toList
      have h3 := List.length_take_le' k xs.data.toList
      omega
    rw [hR]
    have HR := Lib.hid hR; have HQL := Lib.hid hql
    clear h1 hok hx h4 hxs hR hql hsz
    go_enter Tryz.func41, Tryz.ntmps41
    go_upto_region 1 with fail
    have hb0 := rows1 (w := w) (A := .cells #[.int .i64 x.k, .int .i64 x.n, .string xs] 26) (Below.refl _ _)
    generalize (w.alloc (.cells #[.int .i64 x.k, .int .i64 x.n, .string xs] 26)) = w1 at *
    obtain ⟨rA, hbw, hz1w⟩ := hb0
    replace HW := Lib.hid hbw; have RA := Lib.hid rA
    clear rA hbw hz1w
    have cA := rowc RA.out
    go_wp2_with fail
    clear cA
    go_loopw [3, 4] (fun sA i wr => ∃ (k : Nat) (A : List UInt8), k ≤ xs.size ∧ i = .int .i64 (k : Nat) ∧ sA = .string ⟨A.toArray⟩ ∧ Hid (A = [34] ++ quotL (xs.data.toList.take k)) ∧ Hid (Below w1.heap.size w1 wr)) (fun _ i _ => xs.size - (intOf i).toNat)
    case atStart => exact ⟨0, [34], Nat.zero_le _, rfl, rfl, by rw [List.take_zero]; rfl, Below.refl _ _⟩
    case round =>
      obtain ⟨k, A, hk, rfl, rfl, HA, HBr⟩ := hrel
      have RAr := Lib.hid (row_keep HBr.out RA.out)
      have cA := rowc RAr.out
      have hAl : A.length ≤ 301 := by rw [HA.out, List.length_append]; have := HQL.out k; simp; omega
      by_cases hlt : k < xs.size
      case neg =>
        obtain rfl : k = xs.size := Nat.le_antisymm hk (Nat.le_of_not_lt hlt)
        have hA := HA.out
        rw [List.take_of_length_le (by simp)] at hA
        have hR2 : A ++ [34] = R := by rw [hA, HR.out]
        have hs1 : ¬ 9223372036854775807 < A.length + 1 := by omega
        have HR2 := Lib.hid hR2
        have dl : decide (xs.size < xs.size) = false := by simp
        clear hlt hk hA hR2
        go_wp2_with fail
        go_ret
        refine ⟨?_, HW.out.trans (HBr.out.mono HW.out.size)⟩
        rw [← HR2.out]
        exact congrArg (fun s => Ending.returned (Value.string s)) (ba_app A [34])
      obtain ⟨ch, hch⟩ : ∃ ch, xs[k] = ch := ⟨_, rfl⟩
      have hq : xs.data.toList[k]? = some ch := by
        rw [List.getElem?_eq_getElem (by simpa using hlt), ← hch]; rfl
      have hA2 := quotL_take hq
      obtain ⟨c, hc⟩ : ∃ c, ch.toNat = c := ⟨_, rfl⟩
      have hc256 : c < 256 := by rw [← hc]; exact ch.toNat_lt
      have dl : decide (k < xs.size) = true := decide_eq_true hlt
      unfold qesc at hA2
      rw [hc] at hA2
      have HQ2 := Lib.hid hA2; have Hlt := Lib.hid hlt
      have HXC := Lib.hid hch
      have hcx : xs[k].toNat = c := (congrArg UInt8.toNat hch).trans hc
      clear hA2 hq hk
      have hq3 := HQ2.out
      by_cases h32 : c < 32
      · rw [if_pos (escB_true (c := c) (by omega))] at hq3
        have HQ3 := Lib.hid (show A ++ [92] ++ [hexd (c / 16)] ++ [hexd (c % 16)] = [34] ++ quotL (xs.data.toList.take (k + 1)) by rw [hq3, HA.out]; simp)
        have e1 : (c : Int) < 32 := by omega
        have hs1 : ¬ 9223372036854775807 < A.length + 1 := by omega
        have hs2 : ¬ 9223372036854775807 < A.length + 1 + 1 := by omega
        have hs3 : ¬ 9223372036854775807 < A.length + 1 + 1 + 1 := by omega
        clear hq3 hAl
        go_wp2_with fail
        refine (byteR_any _ _).mono ?_; rintro e w4 ⟨rfl, hb4⟩
        replace HBr := Lib.hid (HBr.out.trans (hb4.mono HBr.out.size))
        clear hb4 cA
        go_wp2_with fail
        rw [show ((c : Int) / 16) = ((c / 16 : Nat) : Int) by omega]
        refine (hexDigit_any (c / 16) (by omega) _).mono ?_; rintro e w5 ⟨rfl, rfl⟩
        go_wp2_with fail
        rw [show ((c : Int) % 16) = ((c % 16 : Nat) : Int) by omega]
        refine (hexDigit_any (c % 16) (by omega) _).mono ?_; rintro e w5 ⟨rfl, rfl⟩
        go_wp2_with fail
        go_roundw
        case rel => exact ⟨k + 1, A ++ [92] ++ [hexd (c / 16)] ++ [hexd (c % 16)], Hlt.out, by go_num, congrArg Value.string (by rw [← ba_app, ← ba_app, ← ba_app] <;> rfl), HQ3.out, HBr.out⟩
        case measure => have := Hlt.out; simp [intOf]; omega
      by_cases h126 : 126 < c
      · rw [if_pos (escB_true (c := c) (by omega))] at hq3
        have HQ3 := Lib.hid (show A ++ [92] ++ [hexd (c / 16)] ++ [hexd (c % 16)] = [34] ++ quotL (xs.data.toList.take (k + 1)) by rw [hq3, HA.out]; simp)
        have e1 : ¬ (c : Int) < 32 := by omega
        have e2 : (126 : Int) < c := by omega
        have hs1 : ¬ 9223372036854775807 < A.length + 1 := by omega
        have hs2 : ¬ 9223372036854775807 < A.length + 1 + 1 := by omega
        have hs3 : ¬ 9223372036854775807 < A.length + 1 + 1 + 1 := by omega
        clear hq3 hAl
        go_wp2_with fail
        refine (byteR_any _ _).mono ?_; rintro e w4 ⟨rfl, hb4⟩
        replace HBr := Lib.hid (HBr.out.trans (hb4.mono HBr.out.size))
        clear hb4 cA
        go_wp2_with fail
        rw [show ((c : Int) / 16) = ((c / 16 : Nat) : Int) by omega]
        refine (hexDigit_any (c / 16) (by omega) _).mono ?_; rintro e w5 ⟨rfl, rfl⟩
        go_wp2_with fail
        rw [show ((c : Int) % 16) = ((c % 16 : Nat) : Int) by omega]
        refine (hexDigit_any (c % 16) (by omega) _).mono ?_; rintro e w5 ⟨rfl, rfl⟩
        go_wp2_with fail
        go_roundw
        case rel => exact ⟨k + 1, A ++ [92] ++ [hexd (c / 16)] ++ [hexd (c % 16)], Hlt.out, by go_num, congrArg Value.string (by rw [← ba_app, ← ba_app, ← ba_app] <;> rfl), HQ3.out, HBr.out⟩
        case measure => have := Hlt.out; simp [intOf]; omega
      by_cases h34 : c = 34
      · subst h34
        rw [if_pos (escB_true (c := 34) (by omega))] at hq3
        have HQ3 := Lib.hid (show A ++ [92] ++ [hexd 2] ++ [hexd 2] = [34] ++ quotL (xs.data.toList.take (k + 1)) by rw [hq3, HA.out]; simp)
        have hs1 : ¬ 9223372036854775807 < A.length + 1 := by omega
        have hs2 : ¬ 9223372036854775807 < A.length + 1 + 1 := by omega
        have hs3 : ¬ 9223372036854775807 < A.length + 1 + 1 + 1 := by omega
        clear hq3 hAl
        go_wp2_with fail
        refine (byteR_any _ _).mono ?_; rintro e w4 ⟨rfl, hb4⟩
        replace HBr := Lib.hid (HBr.out.trans (hb4.mono HBr.out.size))
        clear hb4 cA
        go_wp2_with fail
        refine (hexDigit_any 2 (by omega) _).mono ?_; rintro e w5 ⟨rfl, rfl⟩
        go_wp2_with fail
        refine (hexDigit_any 2 (by omega) _).mono ?_; rintro e w5 ⟨rfl, rfl⟩
        go_wp2_with fail
        go_roundw
        case rel => exact ⟨k + 1, A ++ [92] ++ [hexd 2] ++ [hexd 2], Hlt.out, by go_num, congrArg Value.string (by rw [← ba_app, ← ba_app, ← ba_app] <;> rfl), HQ3.out, HBr.out⟩
        case measure => have := Hlt.out; simp [intOf]; omega
      by_cases h92 : c = 92
      · subst h92
        rw [if_pos (escB_true (c := 92) (by omega))] at hq3
        have HQ3 := Lib.hid (show A ++ [92] ++ [hexd 5] ++ [hexd 12] = [34] ++ quotL (xs.data.toList.take (k + 1)) by rw [hq3, HA.out]; simp)
        have hs1 : ¬ 9223372036854775807 < A.length + 1 := by omega
        have hs2 : ¬ 9223372036854775807 < A.length + 1 + 1 := by omega
        have hs3 : ¬ 9223372036854775807 < A.length + 1 + 1 + 1 := by omega
        clear hq3 hAl
        go_wp2_with fail
        refine (byteR_any _ _).mono ?_; rintro e w4 ⟨rfl, hb4⟩
        replace HBr := Lib.hid (HBr.out.trans (hb4.mono HBr.out.size))
        clear hb4 cA
        go_wp2_with fail
        refine (hexDigit_any 5 (by omega) _).mono ?_; rintro e w5 ⟨rfl, rfl⟩
        go_wp2_with fail
        refine (hexDigit_any 12 (by omega) _).mono ?_; rintro e w5 ⟨rfl, rfl⟩
        go_wp2_with fail
        go_roundw
        case rel => exact ⟨k + 1, A ++ [92] ++ [hexd 5] ++ [hexd 12], Hlt.out, by go_num, congrArg Value.string (by rw [← ba_app, ← ba_app, ← ba_app] <;> rfl), HQ3.out, HBr.out⟩
        case measure => have := Hlt.out; simp [intOf]; omega
      rw [if_neg (by rw [escB_false (c := c) (by omega)]; decide)] at hq3
      have HQ3 := Lib.hid (show A ++ [ch] = [34] ++ quotL (xs.data.toList.take (k + 1)) by rw [hq3, HA.out]; simp)
      have e1 : ¬ (c : Int) < 32 := by omega
      have e2 : ¬ (126 : Int) < c := by omega
      have q34 : ((c : Int) == 34) = false := by simp; omega
      have q92 : ((c : Int) == 92) = false := by simp; omega
      have hs1 : ¬ 9223372036854775807 < A.length + 1 := by omega
      clear hq3 hAl
      go_wp2_with fail
      refine (byteR_any _ _).mono ?_; rintro e w4 ⟨rfl, hb4⟩
      replace HBr := Lib.hid (HBr.out.trans (hb4.mono HBr.out.size))
      clear hb4 cA
      go_wp2_with fail
      go_roundw
      case rel => exact ⟨k + 1, A ++ [ch], Hlt.out, by go_num, congrArg Value.string ((congrArg (fun z => (⟨A.toArray⟩ : ByteArray) ++ (⟨[z].toArray⟩ : ByteArray)) (show UInt8.ofNat ((c : Int) % 256).toNat = ch by rw [show ((c : Int) % 256).toNat = c by omega, ← hc]; simp)).trans (ba_app A [ch])), HQ3.out, HBr.out⟩
      case measure => have := Hlt.out; simp [intOf]; omega

set_option maxRecDepth 100000 in
set_option maxHeartbeats 16000000 in
theorem vt_hex (x : Val) (hx : okB x.k x = true) (hn0 : -9223372036854775808 ≤ x.n) (hn1 : x.n ≤ 9223372036854775807) (w : World) (h1 : ¬ x.k = 1) (h4 : ¬ x.k = 4) (h5 : x.k = 5) : Calls Tryz.prog 41 #[.agg (valA x)] w (TextRet (valT x) w) := by
  have hok := (okB_iff x.k x).1 hx
  have HW := Lib.hid ((Below.refl w.heap.size w).alloc (Nat.le_refl _) (.cells (valA x) 26))
  unfold valT
  have dk1 : ((x.k : Int) == 1) = false := by simpa using h1
  rw [if_neg h1]
  have dk4 : ((x.k : Int) == 4) = false := by simpa using h4
  rw [if_neg h4]
  · have dk : ((x.k : Int) == 5) = true := by rw [h5]; rfl
    rw [if_pos h5]
    obtain ⟨n, hn⟩ : ∃ n, x.n = n := ⟨_, rfl⟩
    unfold valA at *
    rw [hn] at HW ⊢
    obtain ⟨U, hU⟩ : ∃ U : Nat, n % 18446744073709551616 = (U : Int) := ⟨(n % 18446744073709551616).toNat, by omega⟩
    have hUb : U < 18446744073709551616 := by omega
    obtain ⟨R, hR⟩ : ∃ R, hexU 16 U = R := ⟨_, rfl⟩
    have hRl : R.length = 16 := by rw [← hR]; exact hexU_len 16 U
    rw [hU, Int.toNat_natCast, hR]
    have HR := Lib.hid hR
    have HU := Lib.hid hU
    clear h1 h4 hok hx h5 hR hn hn0 hn1
    go_enter Tryz.func41, Tryz.ntmps41
    go_wp2_with fail
    go_loopw [6, 7, 8] (fun sA u i wr => ∃ (k V : Nat) (A : List UInt8), k ≤ 16 ∧ i = .int .i64 (k : Nat) ∧ u = .int .u64 (V : Nat) ∧ V < 18446744073709551616 ∧ sA = .string ⟨A.toArray⟩ ∧ Hid (hexU (16 - k) V ++ A = R) ∧ A.length = k ∧ wr = (w.alloc (.cells #[.int .i64 x.k, .int .i64 n, .string x.s] 26))) (fun _ _ i _ => 16 - (intOf i).toNat)
    case atStart => exact ⟨0, U, [], by omega, rfl, by simp [← HU.out, IntKind.wrap_u64], hUb, rfl, by rw [List.append_nil]; exact HR.out, rfl, rfl⟩
    case round =>
      obtain ⟨k, V, A, hk, rfl, rfl, hV, rfl, HA, hAl, rfl⟩ := hrel
      by_cases hlt : k < 16
      case neg =>
        obtain rfl : k = 16 := by omega
        have hA := HA.out
        rw [Nat.sub_self, hexU, List.nil_append] at hA
        subst hA
        have hs1 : ¬ 9223372036854775807 < 1 + A.length := by omega
        go_wp2_with fail
        go_ret
        exact ⟨congrArg (fun s => Ending.returned (Value.string s)) (ba_app [120] A), HW.out⟩
      have hA := HA.out
      rw [show 16 - k = (15 - k) + 1 by omega, hexU, List.append_assoc] at hA
      have HA2 := Lib.hid (show hexU (16 - (k + 1)) (V / 16) ++ ([hexd (V % 16)] ++ A) = R by rw [show 16 - (k + 1) = 15 - k by omega]; exact hA)
      have hs1 : ¬ 9223372036854775807 < 1 + A.length := by omega
      clear hA HA
      go_wp2_with fail
      rw [show ((V : Int) % 16) = ((V % 16 : Nat) : Int) by omega]
      refine (hexDigit_any (V % 16) (by omega) _).mono ?_; rintro e w5 ⟨rfl, rfl⟩
      go_wp2_with fail
      go_roundw
      case rel => exact ⟨k + 1, V / 16, [hexd (V % 16)] ++ A, by omega, by go_num, by go_num, by omega, congrArg Value.string (ba_app [hexd (V % 16)] A), HA2.out, by simp; omega, by first | trivial | rfl⟩
      case measure => simp [intOf]; omega

set_option maxRecDepth 100000 in
set_option maxHeartbeats 16000000 in
theorem vt_num (x : Val) (hx : okB x.k x = true) (hn0 : -9223372036854775808 ≤ x.n) (hn1 : x.n ≤ 9223372036854775807) (w : World) (h1 : ¬ x.k = 1) (h4 : ¬ x.k = 4) (h5 : ¬ x.k = 5) : Calls Tryz.prog 41 #[.agg (valA x)] w (TextRet (valT x) w) := by
  have hok := (okB_iff x.k x).1 hx
  have HW := Lib.hid ((Below.refl w.heap.size w).alloc (Nat.le_refl _) (.cells (valA x) 26))
  unfold valT
  have dk1 : ((x.k : Int) == 1) = false := by simpa using h1
  rw [if_neg h1]
  have dk4 : ((x.k : Int) == 4) = false := by simpa using h4
  rw [if_neg h4]
  have dk5 : ((x.k : Int) == 5) = false := by simpa using h5
  rw [if_neg h5]
  obtain ⟨n, hn⟩ : ∃ n, x.n = n := ⟨_, rfl⟩
  rw [hn] at hn0 hn1
  have HD := Lib.hid (fun w1 => decimal_any n hn0 hn1 w1)
  unfold valA at *
  rw [hn] at HW ⊢
  clear h1 h4 h5 hok hx hn hn0 hn1
  go_enter Tryz.func41, Tryz.ntmps41
  go_wp2_with fail
  refine (HD.out _).mono ?_; rintro e w4 ⟨rfl, hb4⟩
  go_wp2_with fail
  go_ret
  exact ⟨rfl, HW.out.trans (hb4.mono HW.out.size)⟩

theorem valueText_any (x : Val) (hx : okB x.k x = true) (hn0 : -9223372036854775808 ≤ x.n) (hn1 : x.n ≤ 9223372036854775807) (w : World) : Calls Tryz.prog 41 #[.agg (valA x)] w (TextRet (valT x) w) := by
  by_cases h1 : x.k = 1
  · exact vt_bool x hx hn0 hn1 w h1
  by_cases h4 : x.k = 4
  · exact vt_text x hx hn0 hn1 w h1 h4
  by_cases h5 : x.k = 5
  · exact vt_hex x hx hn0 hn1 w h1 h4 h5
  exact vt_num x hx hn0 hn1 w h1 h4 h5
end Go.Proofs.YthfljcpfcnddhaaGreatDoor
