/- The walk of data.quoted. Written by gen_dx7.py. -/
import Derived.Test.YthfljcpfcnddhaaGreatDoorDx4
import Derived.IntWalk
namespace Go.Proofs.YthfljcpfcnddhaaGreatDoor
set_option linter.unusedVariables false
set_option linter.unusedSimpArgs false
open Go Go.RowKit Go.ChangeShapes

theorem own_lit1 (w : World) (b : UInt8) : (w.alloc (.cells #[byteV b] 5)).ownsRow w.heap.size 5 1 (.slice (some ⟨w.heap.size, 0, none⟩) 1 1) 1 [byteV b] :=
  ⟨rfl, .inr ⟨w.heap.size, _, _, rfl, Nat.le_refl _, heap_alloc_new w _, by decide, by decide, by simp, by simp⟩⟩
theorem wp_append_run {P : Program} {w w' : World} {o : Oper} {a : Act} {K : Act → World → Prop} {Q : Exit → Act → World → Prop} (s x : Operand) (t : TypeId) (hop : o.op = .call { callee := .builtin .append, args := #[s, x], argTypes := #[t, t] })
    (vs vx v' : Value) (hs : a.eval s = vs) (hx : a.eval x = vx) (hrun : (Builtin.append_ #[t, t] o.type #[vs, vx]).run P w = .ok v' w') (h : K (a.put o.dst v') w') : Oper.wp P o a w K Q := by
  unfold Oper.wp
  simp [execOp, hop, resolve, invoke, builtin, hs, hx, hrun, Result.andThen]
  exact h
theorem hexget (i m : Nat) (h : i < (⟨#[48, 49, 50, 51, 52, 53, 54, 55, 56, 57, 97, 98, 99, 100, 101, 102]⟩ : ByteArray).size) (e : i = m) : (⟨#[48, 49, 50, 51, 52, 53, 54, 55, 56, 57, 97, 98, 99, 100, 101, 102]⟩ : ByteArray)[i]'h = hexd m := by
  subst e
  have h2 : i < 16 := h
  have hn : i = 0 ∨ i = 1 ∨ i = 2 ∨ i = 3 ∨ i = 4 ∨ i = 5 ∨ i = 6 ∨ i = 7 ∨ i = 8 ∨ i = 9 ∨ i = 10 ∨ i = 11 ∨ i = 12 ∨ i = 13 ∨ i = 14 ∨ i = 15 := by omega
  rcases hn with rfl | rfl | rfl | rfl | rfl | rfl | rfl | rfl | rfl | rfl | rfl | rfl | rfl | rfl | rfl | rfl <;> rfl
theorem and15 (m : Nat) (h : m < 256) : bits .and .u8 (m : Int) 15 = ((m % 16 : Nat) : Int) := by
  have := u8_and_nat m 15 (by omega) (by omega)
  rw [show ((15 : Nat) : Int) = 15 from rfl] at this
  rw [this]
  congr 1
  exact Nat.and_two_pow_sub_one_eq_mod m 4

set_option maxRecDepth 100000 in
set_option maxHeartbeats 16000000 in
theorem quoted_any (xs : ByteArray) (hs : xs.size ≤ 100) (w : World) : Calls Tryz.prog 93 #[.string xs] w (TextRet ([34] ++ quotL xs.data.toList ++ [34]) w) := by
  obtain ⟨i0, hi, hz0, hz1, hz2⟩ := info_parts info_u8
  have hsz : xs.data.toList.length = xs.size := by simp
  obtain ⟨R, hR⟩ : ∃ R, [34] ++ quotL xs.data.toList ++ [34] = R := ⟨_, rfl⟩
  have hql : ∀ k, (quotL (xs.data.toList.take k)).length ≤ 300 := by
    intro k
    have h := quotL_len (xs.data.toList.take k)
    have h3 := List.length_take_le' k xs.data.toList
    omega
  rw [hR]
  have HR := Lib.hid hR; have HQL := Lib.hid hql
  clear hR hql hsz
  have HO := Lib.hid (own_lit1 w 34)
  have HW := Lib.hid ((Below.refl w.heap.size w).alloc (Nat.le_refl _) (.cells #[byteV 34] 5))
  go_enter Tryz.func93, Tryz.ntmps93
  go_wp2_with fail
  go_loopw [3, 9] (fun u i wr => ∃ (k : Nat) (A : List UInt8), k ≤ xs.size ∧ i = .int .i64 (k : Nat) ∧ Hid (wr.ownsRow w.heap.size 5 1 u A.length (A.map byteV)) ∧ Hid (A = [34] ++ quotL (xs.data.toList.take k)) ∧ Hid (Below w.heap.size w wr)) (fun _ i _ => xs.size - (intOf i).toNat)
  case atStart => exact ⟨0, [34], Nat.zero_le _, rfl, HO.out, by rw [List.take_zero]; rfl, HW.out⟩
  case round =>
    obtain ⟨k, A, hk, rfl, Ho, HA, HBr⟩ := hrel
    have hAl : A.length ≤ 301 := by rw [HA.out, List.length_append]; have := HQL.out k; simp; omega
    have h63 : A.length + 1 ≤ maxLen := by unfold maxLen; omega
    by_cases hlt : k < xs.size
    case neg =>
      obtain rfl : k = xs.size := Nat.le_antisymm hk (Nat.le_of_not_lt hlt)
      have hA := HA.out
      rw [List.take_of_length_le (by simp)] at hA
      have hR2 : A ++ [34] = R := by rw [hA, HR.out]
      have HR2 := Lib.hid hR2
      have dl : decide (xs.size < xs.size) = false := by simp
      clear hlt hk hA hR2
      go_wp2_with (at_builtin; refine wpList_push rfl _ _ 130 rfl w.heap.size 5 i0 (.int .u8 0) 1 Tryz.underlying130 hi hz0 hz1 hz2 rfl byteV byteV_one _ _ rfl Ho.out _ _ rfl h63 (by omega) HBr.out.size 34 rfl ?_; intro v' w' Ho' hb' hnn; have hstr := run_own_string (src := 130) (dst := 9) Tryz.underlying130 Tryz.underlying5 Tryz.underlying9 Ho')
      go_ret
      exact ⟨ret_of (str_of HR2.out), HBr.out.trans hb'⟩
    obtain ⟨ch, hch⟩ : ∃ ch, xs[k] = ch := ⟨_, rfl⟩
    have hq : xs.data.toList[k]? = some ch := by
      rw [List.getElem?_eq_getElem (by simpa using hlt), ← hch]; rfl
    have hA2 := quotL_take hq
    obtain ⟨c, hc⟩ : ∃ c, ch.toNat = c := ⟨_, rfl⟩
    have hc256 : c < 256 := by rw [← hc]; exact ch.toNat_lt
    have dl : decide (k < xs.size) = true := decide_eq_true hlt
    unfold qesc at hA2
    rw [hc] at hA2
    have HQ2 := Lib.hid hA2; have Hlt := Lib.hid hlt
    have hcx : xs[k].toNat = c := (congrArg UInt8.toNat hch).trans hc
    have hand := and15 c hc256
    clear hA2 hq hk
    have hq3 := HQ2.out
    by_cases h32 : c < 32
    · rw [if_pos (escB_true (c := c) (by omega))] at hq3
      have HQ3 := Lib.hid hq3
      clear hq3
      have e1 : (c : Int) < 32 := by omega
      go_upto_region 7 with fail
      refine AnyE.region (S := fun _ => True) (E := []) (by kernel_rfl) ?_
      have hS : (fun (_ : World) => True) wr := trivial
      have hi1 : 0 ≤ (c : Int) / 16 ∧ (c : Int) / 16 < 16 := by omega
      have hi2 : 0 ≤ (c : Int) % 16 ∧ (c : Int) % 16 < 16 := by omega
      refine AnyE.take (i := 0) (v := ?_) rfl (by kernel_rfl) (by kernel_rfl) (by kernel_rfl) (by kernel_rfl) (by kernel_rfl) (fun _ _ _ h => h) (Or.inl ⟨by rfl, ?_⟩) hS ?_
      rotate_left
      focus (intro wq hSq; go_simp; first | with_reducible rfl | (simp only [dif_pos hi1, dif_pos hi2, Result.andThen_ok]; with_reducible rfl))
      try simp only [Act.put, List.getElem_toArray, List.getElem_cons_succ, List.getElem_cons_zero, List.setIfInBounds_toArray, List.set_cons_zero, List.set_cons_succ]
      refine AnyE.take (i := 1) (v := ?_) rfl (by kernel_rfl) (by kernel_rfl) (by kernel_rfl) (by kernel_rfl) (by kernel_rfl) (fun _ _ _ h => h) (Or.inl ⟨by rfl, ?_⟩) hS ?_
      rotate_left
      focus (intro wq hSq; go_simp; first | with_reducible rfl | (simp only [dif_pos hi1, dif_pos hi2, Result.andThen_ok]; with_reducible rfl))
      try simp only [Act.put, List.getElem_toArray, List.getElem_cons_succ, List.getElem_cons_zero, List.setIfInBounds_toArray, List.set_cons_zero, List.set_cons_succ]
      refine AnyE.take (i := 2) (v := ?_) rfl (by kernel_rfl) (by kernel_rfl) (by kernel_rfl) (by kernel_rfl) (by kernel_rfl) (fun _ _ _ h => h) (Or.inl ⟨by rfl, ?_⟩) hS ?_
      rotate_left
      focus (intro wq hSq; go_simp; first | with_reducible rfl | (simp only [dif_pos hi1, dif_pos hi2, Result.andThen_ok]; with_reducible rfl))
      try simp only [Act.put, List.getElem_toArray, List.getElem_cons_succ, List.getElem_cons_zero, List.setIfInBounds_toArray, List.set_cons_zero, List.set_cons_succ]
      refine AnyE.take (i := 3) (v := .int .u8 ((hexd (c / 16)).toNat : Int)) rfl (by kernel_rfl) (by kernel_rfl) (by kernel_rfl) (by kernel_rfl) (by kernel_rfl) (fun _ _ _ h => h) (Or.inl ⟨by rfl, ?_⟩) hS ?_
      focus (intro wq hSq; go_simp; first | exact congrArg (fun z : UInt8 => (z.toNat : Int)) (hexget _ (c / 16) _ (by omega)))
      try simp only [Act.put, List.getElem_toArray, List.getElem_cons_succ, List.getElem_cons_zero, List.setIfInBounds_toArray, List.set_cons_zero, List.set_cons_succ]
      refine AnyE.take (i := 4) (v := ?_) rfl (by kernel_rfl) (by kernel_rfl) (by kernel_rfl) (by kernel_rfl) (by kernel_rfl) (fun _ _ _ h => h) (Or.inl ⟨by rfl, ?_⟩) hS ?_
      rotate_left
      focus (intro wq hSq; go_simp; first | with_reducible rfl | (simp only [dif_pos hi1, dif_pos hi2, Result.andThen_ok]; with_reducible rfl))
      try simp only [Act.put, List.getElem_toArray, List.getElem_cons_succ, List.getElem_cons_zero, List.setIfInBounds_toArray, List.set_cons_zero, List.set_cons_succ]
      refine AnyE.take (i := 5) (v := ?_) rfl (by kernel_rfl) (by kernel_rfl) (by kernel_rfl) (by kernel_rfl) (by kernel_rfl) (fun _ _ _ h => h) (Or.inl ⟨by rfl, ?_⟩) hS ?_
      rotate_left
      focus (intro wq hSq; go_simp; first | with_reducible rfl | (simp only [dif_pos hi1, dif_pos hi2, Result.andThen_ok]; with_reducible rfl))
      try simp only [Act.put, List.getElem_toArray, List.getElem_cons_succ, List.getElem_cons_zero, List.setIfInBounds_toArray, List.set_cons_zero, List.set_cons_succ]
      refine AnyE.take (i := 6) (v := .int .u8 ((hexd (c % 16)).toNat : Int)) rfl (by kernel_rfl) (by kernel_rfl) (by kernel_rfl) (by kernel_rfl) (by kernel_rfl) (fun _ _ _ h => h) (Or.inl ⟨by rfl, ?_⟩) hS ?_
      focus (intro wq hSq; go_simp; first | exact congrArg (fun z : UInt8 => (z.toNat : Int)) (hexget _ (c % 16) _ (by omega)))
      try simp only [Act.put, List.getElem_toArray, List.getElem_cons_succ, List.getElem_cons_zero, List.setIfInBounds_toArray, List.set_cons_zero, List.set_cons_succ]
      refine AnyE.one (i := 7) (by kernel_rfl) rfl rfl ?_
      intro K hK
      simp only [List.getElem_toArray, List.getElem_cons_succ, List.getElem_cons_zero]
      go_simp
      refine hK _ _ (fun _ => trivial) ?_
      clear hK K hS
      have hS : (fun (_ : World) => True) wr := trivial
      try simp only [Act.put, List.getElem_toArray, List.getElem_cons_succ, List.getElem_cons_zero, List.setIfInBounds_toArray, List.set_cons_zero, List.set_cons_succ]
      obtain ⟨v', w', hrun, ho', hg', hnn⟩ := run_append_own (P := Tryz.prog) (wr.alloc (.cells #[.int .u8 92, .int .u8 ((hexd (c / 16)).toNat : Int), .int .u8 ((hexd (c % 16)).toNat : Int)] 5)).drew w.heap.size 130 130 5 i0 (.int .u8 0) 1 1 Tryz.underlying130 hi hz0 hz1 hz2 rfl (by decide) _ A.length (A.map byteV) (Ho.out.alloc _).drew ⟨wr.heap.size, 0, none⟩ 3 3 [byteV 92, byteV (hexd (c / 16)), byteV (hexd (c % 16))] rfl (by intro j u hj; rcases j with _ | _ | _ | j <;> simp at hj <;> first | (subst hj; simp [go_sem, byteV]) | skip) (by intro u hu; simp only [List.mem_cons, List.not_mem_nil, or_false] at hu; rcases hu with rfl | rfl | rfl <;> rfl) (by unfold maxLen; omega) (by omega) (show w.heap.size ≤ (wr.heap.push _).size by have := HBr.out.size; rw [Array.size_push]; omega)
      refine AnyE.one (i := 8) (by kernel_rfl) rfl rfl ?_
      intro K hK
      simp only [List.getElem_toArray, List.getElem_cons_succ, List.getElem_cons_zero]
      refine wp_append_run _ _ _ rfl _ _ v' rfl rfl hrun ?_
      refine hK _ _ (fun _ => trivial) ?_
      clear hK K hS
      have hS : (fun (_ : World) => True) w' := trivial
      try simp only [Act.put, List.getElem_toArray, List.getElem_cons_succ, List.getElem_cons_zero, List.setIfInBounds_toArray, List.set_cons_zero, List.set_cons_succ]
      refine AnyE.take (i := 9) (v := ?_) rfl (by kernel_rfl) (by kernel_rfl) (by kernel_rfl) (by kernel_rfl) (by kernel_rfl) (fun _ _ _ h => h) (Or.inl ⟨by rfl, ?_⟩) hS ?_
      rotate_left
      focus (intro wq hSq; obtain hS1 := hSq; go_simp; with_reducible rfl)
      try simp only [Act.put, List.getElem_toArray, List.getElem_cons_succ, List.getElem_cons_zero, List.setIfInBounds_toArray, List.set_cons_zero, List.set_cons_succ]
      refine AnyE.done (by kernel_rfl) ?_ _
      clear hS
      have hbl : Below w.heap.size wr w' := (((Below.refl w.heap.size wr).alloc HBr.out.size _).drew).grown hg' (show w.heap.size ≤ (wr.heap.push _).size by have := HBr.out.size; rw [Array.size_push]; omega) (by intro k hk; exact (Ho.out.lt k hk).1)
      have Ho2 := Lib.hid ho'; have HBL := Lib.hid hbl; clear ho' hg' hbl hrun hnn
      go_wp2_with fail
      go_roundw
      case rel => exact ⟨k + 1, A ++ [92, hexd (c / 16), hexd (c % 16)], Hlt.out, by go_num, Lib.hid (by simpa using Ho2.out), Lib.hid (by rw [HQ3.out, HA.out]; simp), HBr.out.trans HBL.out⟩
      case measure => have := Hlt.out; simp [intOf]; omega
    by_cases h126 : 126 < c
    · rw [if_pos (escB_true (c := c) (by omega))] at hq3
      have HQ3 := Lib.hid hq3
      clear hq3
      have e1 : ¬ (c : Int) < 32 := by omega
      have e2 : (126 : Int) < c := by omega
      go_upto_region 7 with fail
      refine AnyE.region (S := fun _ => True) (E := []) (by kernel_rfl) ?_
      have hS : (fun (_ : World) => True) wr := trivial
      have hi1 : 0 ≤ (c : Int) / 16 ∧ (c : Int) / 16 < 16 := by omega
      have hi2 : 0 ≤ (c : Int) % 16 ∧ (c : Int) % 16 < 16 := by omega
      refine AnyE.take (i := 0) (v := ?_) rfl (by kernel_rfl) (by kernel_rfl) (by kernel_rfl) (by kernel_rfl) (by kernel_rfl) (fun _ _ _ h => h) (Or.inl ⟨by rfl, ?_⟩) hS ?_
      rotate_left
      focus (intro wq hSq; go_simp; first | with_reducible rfl | (simp only [dif_pos hi1, dif_pos hi2, Result.andThen_ok]; with_reducible rfl))
      try simp only [Act.put, List.getElem_toArray, List.getElem_cons_succ, List.getElem_cons_zero, List.setIfInBounds_toArray, List.set_cons_zero, List.set_cons_succ]
      refine AnyE.take (i := 1) (v := ?_) rfl (by kernel_rfl) (by kernel_rfl) (by kernel_rfl) (by kernel_rfl) (by kernel_rfl) (fun _ _ _ h => h) (Or.inl ⟨by rfl, ?_⟩) hS ?_
      rotate_left
      focus (intro wq hSq; go_simp; first | with_reducible rfl | (simp only [dif_pos hi1, dif_pos hi2, Result.andThen_ok]; with_reducible rfl))
      try simp only [Act.put, List.getElem_toArray, List.getElem_cons_succ, List.getElem_cons_zero, List.setIfInBounds_toArray, List.set_cons_zero, List.set_cons_succ]
      refine AnyE.take (i := 2) (v := ?_) rfl (by kernel_rfl) (by kernel_rfl) (by kernel_rfl) (by kernel_rfl) (by kernel_rfl) (fun _ _ _ h => h) (Or.inl ⟨by rfl, ?_⟩) hS ?_
      rotate_left
      focus (intro wq hSq; go_simp; first | with_reducible rfl | (simp only [dif_pos hi1, dif_pos hi2, Result.andThen_ok]; with_reducible rfl))
      try simp only [Act.put, List.getElem_toArray, List.getElem_cons_succ, List.getElem_cons_zero, List.setIfInBounds_toArray, List.set_cons_zero, List.set_cons_succ]
      refine AnyE.take (i := 3) (v := .int .u8 ((hexd (c / 16)).toNat : Int)) rfl (by kernel_rfl) (by kernel_rfl) (by kernel_rfl) (by kernel_rfl) (by kernel_rfl) (fun _ _ _ h => h) (Or.inl ⟨by rfl, ?_⟩) hS ?_
      focus (intro wq hSq; go_simp; first | exact congrArg (fun z : UInt8 => (z.toNat : Int)) (hexget _ (c / 16) _ (by omega)))
      try simp only [Act.put, List.getElem_toArray, List.getElem_cons_succ, List.getElem_cons_zero, List.setIfInBounds_toArray, List.set_cons_zero, List.set_cons_succ]
      refine AnyE.take (i := 4) (v := ?_) rfl (by kernel_rfl) (by kernel_rfl) (by kernel_rfl) (by kernel_rfl) (by kernel_rfl) (fun _ _ _ h => h) (Or.inl ⟨by rfl, ?_⟩) hS ?_
      rotate_left
      focus (intro wq hSq; go_simp; first | with_reducible rfl | (simp only [dif_pos hi1, dif_pos hi2, Result.andThen_ok]; with_reducible rfl))
      try simp only [Act.put, List.getElem_toArray, List.getElem_cons_succ, List.getElem_cons_zero, List.setIfInBounds_toArray, List.set_cons_zero, List.set_cons_succ]
      refine AnyE.take (i := 5) (v := ?_) rfl (by kernel_rfl) (by kernel_rfl) (by kernel_rfl) (by kernel_rfl) (by kernel_rfl) (fun _ _ _ h => h) (Or.inl ⟨by rfl, ?_⟩) hS ?_
      rotate_left
      focus (intro wq hSq; go_simp; first | with_reducible rfl | (simp only [dif_pos hi1, dif_pos hi2, Result.andThen_ok]; with_reducible rfl))
      try simp only [Act.put, List.getElem_toArray, List.getElem_cons_succ, List.getElem_cons_zero, List.setIfInBounds_toArray, List.set_cons_zero, List.set_cons_succ]
      refine AnyE.take (i := 6) (v := .int .u8 ((hexd (c % 16)).toNat : Int)) rfl (by kernel_rfl) (by kernel_rfl) (by kernel_rfl) (by kernel_rfl) (by kernel_rfl) (fun _ _ _ h => h) (Or.inl ⟨by rfl, ?_⟩) hS ?_
      focus (intro wq hSq; go_simp; first | exact congrArg (fun z : UInt8 => (z.toNat : Int)) (hexget _ (c % 16) _ (by omega)))
      try simp only [Act.put, List.getElem_toArray, List.getElem_cons_succ, List.getElem_cons_zero, List.setIfInBounds_toArray, List.set_cons_zero, List.set_cons_succ]
      refine AnyE.one (i := 7) (by kernel_rfl) rfl rfl ?_
      intro K hK
      simp only [List.getElem_toArray, List.getElem_cons_succ, List.getElem_cons_zero]
      go_simp
      refine hK _ _ (fun _ => trivial) ?_
      clear hK K hS
      have hS : (fun (_ : World) => True) wr := trivial
      try simp only [Act.put, List.getElem_toArray, List.getElem_cons_succ, List.getElem_cons_zero, List.setIfInBounds_toArray, List.set_cons_zero, List.set_cons_succ]
      obtain ⟨v', w', hrun, ho', hg', hnn⟩ := run_append_own (P := Tryz.prog) (wr.alloc (.cells #[.int .u8 92, .int .u8 ((hexd (c / 16)).toNat : Int), .int .u8 ((hexd (c % 16)).toNat : Int)] 5)).drew w.heap.size 130 130 5 i0 (.int .u8 0) 1 1 Tryz.underlying130 hi hz0 hz1 hz2 rfl (by decide) _ A.length (A.map byteV) (Ho.out.alloc _).drew ⟨wr.heap.size, 0, none⟩ 3 3 [byteV 92, byteV (hexd (c / 16)), byteV (hexd (c % 16))] rfl (by intro j u hj; rcases j with _ | _ | _ | j <;> simp at hj <;> first | (subst hj; simp [go_sem, byteV]) | skip) (by intro u hu; simp only [List.mem_cons, List.not_mem_nil, or_false] at hu; rcases hu with rfl | rfl | rfl <;> rfl) (by unfold maxLen; omega) (by omega) (show w.heap.size ≤ (wr.heap.push _).size by have := HBr.out.size; rw [Array.size_push]; omega)
      refine AnyE.one (i := 8) (by kernel_rfl) rfl rfl ?_
      intro K hK
      simp only [List.getElem_toArray, List.getElem_cons_succ, List.getElem_cons_zero]
      refine wp_append_run _ _ _ rfl _ _ v' rfl rfl hrun ?_
      refine hK _ _ (fun _ => trivial) ?_
      clear hK K hS
      have hS : (fun (_ : World) => True) w' := trivial
      try simp only [Act.put, List.getElem_toArray, List.getElem_cons_succ, List.getElem_cons_zero, List.setIfInBounds_toArray, List.set_cons_zero, List.set_cons_succ]
      refine AnyE.take (i := 9) (v := ?_) rfl (by kernel_rfl) (by kernel_rfl) (by kernel_rfl) (by kernel_rfl) (by kernel_rfl) (fun _ _ _ h => h) (Or.inl ⟨by rfl, ?_⟩) hS ?_
      rotate_left
      focus (intro wq hSq; obtain hS1 := hSq; go_simp; with_reducible rfl)
      try simp only [Act.put, List.getElem_toArray, List.getElem_cons_succ, List.getElem_cons_zero, List.setIfInBounds_toArray, List.set_cons_zero, List.set_cons_succ]
      refine AnyE.done (by kernel_rfl) ?_ _
      clear hS
      have hbl : Below w.heap.size wr w' := (((Below.refl w.heap.size wr).alloc HBr.out.size _).drew).grown hg' (show w.heap.size ≤ (wr.heap.push _).size by have := HBr.out.size; rw [Array.size_push]; omega) (by intro k hk; exact (Ho.out.lt k hk).1)
      have Ho2 := Lib.hid ho'; have HBL := Lib.hid hbl; clear ho' hg' hbl hrun hnn
      go_wp2_with fail
      go_roundw
      case rel => exact ⟨k + 1, A ++ [92, hexd (c / 16), hexd (c % 16)], Hlt.out, by go_num, Lib.hid (by simpa using Ho2.out), Lib.hid (by rw [HQ3.out, HA.out]; simp), HBr.out.trans HBL.out⟩
      case measure => have := Hlt.out; simp [intOf]; omega
    by_cases h34 : c = 34
    · rw [if_pos (escB_true (c := c) (by omega))] at hq3
      have HQ3 := Lib.hid hq3
      clear hq3
      have e1 : ¬ (c : Int) < 32 := by omega
      have e2 : ¬ (126 : Int) < c := by omega
      have q34 : ((c : Int) == 34) = true := by simp; omega
      clear h34
      go_upto_region 7 with fail
      refine AnyE.region (S := fun _ => True) (E := []) (by kernel_rfl) ?_
      have hS : (fun (_ : World) => True) wr := trivial
      have hi1 : 0 ≤ (c : Int) / 16 ∧ (c : Int) / 16 < 16 := by omega
      have hi2 : 0 ≤ (c : Int) % 16 ∧ (c : Int) % 16 < 16 := by omega
      refine AnyE.take (i := 0) (v := ?_) rfl (by kernel_rfl) (by kernel_rfl) (by kernel_rfl) (by kernel_rfl) (by kernel_rfl) (fun _ _ _ h => h) (Or.inl ⟨by rfl, ?_⟩) hS ?_
      rotate_left
      focus (intro wq hSq; go_simp; first | with_reducible rfl | (simp only [dif_pos hi1, dif_pos hi2, Result.andThen_ok]; with_reducible rfl))
      try simp only [Act.put, List.getElem_toArray, List.getElem_cons_succ, List.getElem_cons_zero, List.setIfInBounds_toArray, List.set_cons_zero, List.set_cons_succ]
      refine AnyE.take (i := 1) (v := ?_) rfl (by kernel_rfl) (by kernel_rfl) (by kernel_rfl) (by kernel_rfl) (by kernel_rfl) (fun _ _ _ h => h) (Or.inl ⟨by rfl, ?_⟩) hS ?_
      rotate_left
      focus (intro wq hSq; go_simp; first | with_reducible rfl | (simp only [dif_pos hi1, dif_pos hi2, Result.andThen_ok]; with_reducible rfl))
      try simp only [Act.put, List.getElem_toArray, List.getElem_cons_succ, List.getElem_cons_zero, List.setIfInBounds_toArray, List.set_cons_zero, List.set_cons_succ]
      refine AnyE.take (i := 2) (v := ?_) rfl (by kernel_rfl) (by kernel_rfl) (by kernel_rfl) (by kernel_rfl) (by kernel_rfl) (fun _ _ _ h => h) (Or.inl ⟨by rfl, ?_⟩) hS ?_
      rotate_left
      focus (intro wq hSq; go_simp; first | with_reducible rfl | (simp only [dif_pos hi1, dif_pos hi2, Result.andThen_ok]; with_reducible rfl))
      try simp only [Act.put, List.getElem_toArray, List.getElem_cons_succ, List.getElem_cons_zero, List.setIfInBounds_toArray, List.set_cons_zero, List.set_cons_succ]
      refine AnyE.take (i := 3) (v := .int .u8 ((hexd (c / 16)).toNat : Int)) rfl (by kernel_rfl) (by kernel_rfl) (by kernel_rfl) (by kernel_rfl) (by kernel_rfl) (fun _ _ _ h => h) (Or.inl ⟨by rfl, ?_⟩) hS ?_
      focus (intro wq hSq; go_simp; first | exact congrArg (fun z : UInt8 => (z.toNat : Int)) (hexget _ (c / 16) _ (by omega)))
      try simp only [Act.put, List.getElem_toArray, List.getElem_cons_succ, List.getElem_cons_zero, List.setIfInBounds_toArray, List.set_cons_zero, List.set_cons_succ]
      refine AnyE.take (i := 4) (v := ?_) rfl (by kernel_rfl) (by kernel_rfl) (by kernel_rfl) (by kernel_rfl) (by kernel_rfl) (fun _ _ _ h => h) (Or.inl ⟨by rfl, ?_⟩) hS ?_
      rotate_left
      focus (intro wq hSq; go_simp; first | with_reducible rfl | (simp only [dif_pos hi1, dif_pos hi2, Result.andThen_ok]; with_reducible rfl))
      try simp only [Act.put, List.getElem_toArray, List.getElem_cons_succ, List.getElem_cons_zero, List.setIfInBounds_toArray, List.set_cons_zero, List.set_cons_succ]
      refine AnyE.take (i := 5) (v := ?_) rfl (by kernel_rfl) (by kernel_rfl) (by kernel_rfl) (by kernel_rfl) (by kernel_rfl) (fun _ _ _ h => h) (Or.inl ⟨by rfl, ?_⟩) hS ?_
      rotate_left
      focus (intro wq hSq; go_simp; first | with_reducible rfl | (simp only [dif_pos hi1, dif_pos hi2, Result.andThen_ok]; with_reducible rfl))
      try simp only [Act.put, List.getElem_toArray, List.getElem_cons_succ, List.getElem_cons_zero, List.setIfInBounds_toArray, List.set_cons_zero, List.set_cons_succ]
      refine AnyE.take (i := 6) (v := .int .u8 ((hexd (c % 16)).toNat : Int)) rfl (by kernel_rfl) (by kernel_rfl) (by kernel_rfl) (by kernel_rfl) (by kernel_rfl) (fun _ _ _ h => h) (Or.inl ⟨by rfl, ?_⟩) hS ?_
      focus (intro wq hSq; go_simp; first | exact congrArg (fun z : UInt8 => (z.toNat : Int)) (hexget _ (c % 16) _ (by omega)))
      try simp only [Act.put, List.getElem_toArray, List.getElem_cons_succ, List.getElem_cons_zero, List.setIfInBounds_toArray, List.set_cons_zero, List.set_cons_succ]
      refine AnyE.one (i := 7) (by kernel_rfl) rfl rfl ?_
      intro K hK
      simp only [List.getElem_toArray, List.getElem_cons_succ, List.getElem_cons_zero]
      go_simp
      refine hK _ _ (fun _ => trivial) ?_
      clear hK K hS
      have hS : (fun (_ : World) => True) wr := trivial
      try simp only [Act.put, List.getElem_toArray, List.getElem_cons_succ, List.getElem_cons_zero, List.setIfInBounds_toArray, List.set_cons_zero, List.set_cons_succ]
      obtain ⟨v', w', hrun, ho', hg', hnn⟩ := run_append_own (P := Tryz.prog) (wr.alloc (.cells #[.int .u8 92, .int .u8 ((hexd (c / 16)).toNat : Int), .int .u8 ((hexd (c % 16)).toNat : Int)] 5)).drew w.heap.size 130 130 5 i0 (.int .u8 0) 1 1 Tryz.underlying130 hi hz0 hz1 hz2 rfl (by decide) _ A.length (A.map byteV) (Ho.out.alloc _).drew ⟨wr.heap.size, 0, none⟩ 3 3 [byteV 92, byteV (hexd (c / 16)), byteV (hexd (c % 16))] rfl (by intro j u hj; rcases j with _ | _ | _ | j <;> simp at hj <;> first | (subst hj; simp [go_sem, byteV]) | skip) (by intro u hu; simp only [List.mem_cons, List.not_mem_nil, or_false] at hu; rcases hu with rfl | rfl | rfl <;> rfl) (by unfold maxLen; omega) (by omega) (show w.heap.size ≤ (wr.heap.push _).size by have := HBr.out.size; rw [Array.size_push]; omega)
      refine AnyE.one (i := 8) (by kernel_rfl) rfl rfl ?_
      intro K hK
      simp only [List.getElem_toArray, List.getElem_cons_succ, List.getElem_cons_zero]
      refine wp_append_run _ _ _ rfl _ _ v' rfl rfl hrun ?_
      refine hK _ _ (fun _ => trivial) ?_
      clear hK K hS
      have hS : (fun (_ : World) => True) w' := trivial
      try simp only [Act.put, List.getElem_toArray, List.getElem_cons_succ, List.getElem_cons_zero, List.setIfInBounds_toArray, List.set_cons_zero, List.set_cons_succ]
      refine AnyE.take (i := 9) (v := ?_) rfl (by kernel_rfl) (by kernel_rfl) (by kernel_rfl) (by kernel_rfl) (by kernel_rfl) (fun _ _ _ h => h) (Or.inl ⟨by rfl, ?_⟩) hS ?_
      rotate_left
      focus (intro wq hSq; obtain hS1 := hSq; go_simp; with_reducible rfl)
      try simp only [Act.put, List.getElem_toArray, List.getElem_cons_succ, List.getElem_cons_zero, List.setIfInBounds_toArray, List.set_cons_zero, List.set_cons_succ]
      refine AnyE.done (by kernel_rfl) ?_ _
      clear hS
      have hbl : Below w.heap.size wr w' := (((Below.refl w.heap.size wr).alloc HBr.out.size _).drew).grown hg' (show w.heap.size ≤ (wr.heap.push _).size by have := HBr.out.size; rw [Array.size_push]; omega) (by intro k hk; exact (Ho.out.lt k hk).1)
      have Ho2 := Lib.hid ho'; have HBL := Lib.hid hbl; clear ho' hg' hbl hrun hnn
      go_wp2_with fail
      go_roundw
      case rel => exact ⟨k + 1, A ++ [92, hexd (c / 16), hexd (c % 16)], Hlt.out, by go_num, Lib.hid (by simpa using Ho2.out), Lib.hid (by rw [HQ3.out, HA.out]; simp), HBr.out.trans HBL.out⟩
      case measure => have := Hlt.out; simp [intOf]; omega
    by_cases h92 : c = 92
    · rw [if_pos (escB_true (c := c) (by omega))] at hq3
      have HQ3 := Lib.hid hq3
      clear hq3
      have e1 : ¬ (c : Int) < 32 := by omega
      have e2 : ¬ (126 : Int) < c := by omega
      have q34 : ((c : Int) == 34) = false := by simp; omega
      have q92 : ((c : Int) == 92) = true := by simp; omega
      clear h92
      go_upto_region 7 with fail
      refine AnyE.region (S := fun _ => True) (E := []) (by kernel_rfl) ?_
      have hS : (fun (_ : World) => True) wr := trivial
      have hi1 : 0 ≤ (c : Int) / 16 ∧ (c : Int) / 16 < 16 := by omega
      have hi2 : 0 ≤ (c : Int) % 16 ∧ (c : Int) % 16 < 16 := by omega
      refine AnyE.take (i := 0) (v := ?_) rfl (by kernel_rfl) (by kernel_rfl) (by kernel_rfl) (by kernel_rfl) (by kernel_rfl) (fun _ _ _ h => h) (Or.inl ⟨by rfl, ?_⟩) hS ?_
      rotate_left
      focus (intro wq hSq; go_simp; first | with_reducible rfl | (simp only [dif_pos hi1, dif_pos hi2, Result.andThen_ok]; with_reducible rfl))
      try simp only [Act.put, List.getElem_toArray, List.getElem_cons_succ, List.getElem_cons_zero, List.setIfInBounds_toArray, List.set_cons_zero, List.set_cons_succ]
      refine AnyE.take (i := 1) (v := ?_) rfl (by kernel_rfl) (by kernel_rfl) (by kernel_rfl) (by kernel_rfl) (by kernel_rfl) (fun _ _ _ h => h) (Or.inl ⟨by rfl, ?_⟩) hS ?_
      rotate_left
      focus (intro wq hSq; go_simp; first | with_reducible rfl | (simp only [dif_pos hi1, dif_pos hi2, Result.andThen_ok]; with_reducible rfl))
      try simp only [Act.put, List.getElem_toArray, List.getElem_cons_succ, List.getElem_cons_zero, List.setIfInBounds_toArray, List.set_cons_zero, List.set_cons_succ]
      refine AnyE.take (i := 2) (v := ?_) rfl (by kernel_rfl) (by kernel_rfl) (by kernel_rfl) (by kernel_rfl) (by kernel_rfl) (fun _ _ _ h => h) (Or.inl ⟨by rfl, ?_⟩) hS ?_
      rotate_left
      focus (intro wq hSq; go_simp; first | with_reducible rfl | (simp only [dif_pos hi1, dif_pos hi2, Result.andThen_ok]; with_reducible rfl))
      try simp only [Act.put, List.getElem_toArray, List.getElem_cons_succ, List.getElem_cons_zero, List.setIfInBounds_toArray, List.set_cons_zero, List.set_cons_succ]
      refine AnyE.take (i := 3) (v := .int .u8 ((hexd (c / 16)).toNat : Int)) rfl (by kernel_rfl) (by kernel_rfl) (by kernel_rfl) (by kernel_rfl) (by kernel_rfl) (fun _ _ _ h => h) (Or.inl ⟨by rfl, ?_⟩) hS ?_
      focus (intro wq hSq; go_simp; first | exact congrArg (fun z : UInt8 => (z.toNat : Int)) (hexget _ (c / 16) _ (by omega)))
      try simp only [Act.put, List.getElem_toArray, List.getElem_cons_succ, List.getElem_cons_zero, List.setIfInBounds_toArray, List.set_cons_zero, List.set_cons_succ]
      refine AnyE.take (i := 4) (v := ?_) rfl (by kernel_rfl) (by kernel_rfl) (by kernel_rfl) (by kernel_rfl) (by kernel_rfl) (fun _ _ _ h => h) (Or.inl ⟨by rfl, ?_⟩) hS ?_
      rotate_left
      focus (intro wq hSq; go_simp; first | with_reducible rfl | (simp only [dif_pos hi1, dif_pos hi2, Result.andThen_ok]; with_reducible rfl))
      try simp only [Act.put, List.getElem_toArray, List.getElem_cons_succ, List.getElem_cons_zero, List.setIfInBounds_toArray, List.set_cons_zero, List.set_cons_succ]
      refine AnyE.take (i := 5) (v := ?_) rfl (by kernel_rfl) (by kernel_rfl) (by kernel_rfl) (by kernel_rfl) (by kernel_rfl) (fun _ _ _ h => h) (Or.inl ⟨by rfl, ?_⟩) hS ?_
      rotate_left
      focus (intro wq hSq; go_simp; first | with_reducible rfl | (simp only [dif_pos hi1, dif_pos hi2, Result.andThen_ok]; with_reducible rfl))
      try simp only [Act.put, List.getElem_toArray, List.getElem_cons_succ, List.getElem_cons_zero, List.setIfInBounds_toArray, List.set_cons_zero, List.set_cons_succ]
      refine AnyE.take (i := 6) (v := .int .u8 ((hexd (c % 16)).toNat : Int)) rfl (by kernel_rfl) (by kernel_rfl) (by kernel_rfl) (by kernel_rfl) (by kernel_rfl) (fun _ _ _ h => h) (Or.inl ⟨by rfl, ?_⟩) hS ?_
      focus (intro wq hSq; go_simp; first | exact congrArg (fun z : UInt8 => (z.toNat : Int)) (hexget _ (c % 16) _ (by omega)))
      try simp only [Act.put, List.getElem_toArray, List.getElem_cons_succ, List.getElem_cons_zero, List.setIfInBounds_toArray, List.set_cons_zero, List.set_cons_succ]
      refine AnyE.one (i := 7) (by kernel_rfl) rfl rfl ?_
      intro K hK
      simp only [List.getElem_toArray, List.getElem_cons_succ, List.getElem_cons_zero]
      go_simp
      refine hK _ _ (fun _ => trivial) ?_
      clear hK K hS
      have hS : (fun (_ : World) => True) wr := trivial
      try simp only [Act.put, List.getElem_toArray, List.getElem_cons_succ, List.getElem_cons_zero, List.setIfInBounds_toArray, List.set_cons_zero, List.set_cons_succ]
      obtain ⟨v', w', hrun, ho', hg', hnn⟩ := run_append_own (P := Tryz.prog) (wr.alloc (.cells #[.int .u8 92, .int .u8 ((hexd (c / 16)).toNat : Int), .int .u8 ((hexd (c % 16)).toNat : Int)] 5)).drew w.heap.size 130 130 5 i0 (.int .u8 0) 1 1 Tryz.underlying130 hi hz0 hz1 hz2 rfl (by decide) _ A.length (A.map byteV) (Ho.out.alloc _).drew ⟨wr.heap.size, 0, none⟩ 3 3 [byteV 92, byteV (hexd (c / 16)), byteV (hexd (c % 16))] rfl (by intro j u hj; rcases j with _ | _ | _ | j <;> simp at hj <;> first | (subst hj; simp [go_sem, byteV]) | skip) (by intro u hu; simp only [List.mem_cons, List.not_mem_nil, or_false] at hu; rcases hu with rfl | rfl | rfl <;> rfl) (by unfold maxLen; omega) (by omega) (show w.heap.size ≤ (wr.heap.push _).size by have := HBr.out.size; rw [Array.size_push]; omega)
      refine AnyE.one (i := 8) (by kernel_rfl) rfl rfl ?_
      intro K hK
      simp only [List.getElem_toArray, List.getElem_cons_succ, List.getElem_cons_zero]
      refine wp_append_run _ _ _ rfl _ _ v' rfl rfl hrun ?_
      refine hK _ _ (fun _ => trivial) ?_
      clear hK K hS
      have hS : (fun (_ : World) => True) w' := trivial
      try simp only [Act.put, List.getElem_toArray, List.getElem_cons_succ, List.getElem_cons_zero, List.setIfInBounds_toArray, List.set_cons_zero, List.set_cons_succ]
      refine AnyE.take (i := 9) (v := ?_) rfl (by kernel_rfl) (by kernel_rfl) (by kernel_rfl) (by kernel_rfl) (by kernel_rfl) (fun _ _ _ h => h) (Or.inl ⟨by rfl, ?_⟩) hS ?_
      rotate_left
      focus (intro wq hSq; obtain hS1 := hSq; go_simp; with_reducible rfl)
      try simp only [Act.put, List.getElem_toArray, List.getElem_cons_succ, List.getElem_cons_zero, List.setIfInBounds_toArray, List.set_cons_zero, List.set_cons_succ]
      refine AnyE.done (by kernel_rfl) ?_ _
      clear hS
      have hbl : Below w.heap.size wr w' := (((Below.refl w.heap.size wr).alloc HBr.out.size _).drew).grown hg' (show w.heap.size ≤ (wr.heap.push _).size by have := HBr.out.size; rw [Array.size_push]; omega) (by intro k hk; exact (Ho.out.lt k hk).1)
      have Ho2 := Lib.hid ho'; have HBL := Lib.hid hbl; clear ho' hg' hbl hrun hnn
      go_wp2_with fail
      go_roundw
      case rel => exact ⟨k + 1, A ++ [92, hexd (c / 16), hexd (c % 16)], Hlt.out, by go_num, Lib.hid (by simpa using Ho2.out), Lib.hid (by rw [HQ3.out, HA.out]; simp), HBr.out.trans HBL.out⟩
      case measure => have := Hlt.out; simp [intOf]; omega
    rw [if_neg (by rw [escB_false (c := c) (by omega)]; decide)] at hq3
    have HQ3 := Lib.hid (show A ++ [ch] = [34] ++ quotL (xs.data.toList.take (k + 1)) by rw [hq3, HA.out]; simp)
    clear hq3
    have e1 : ¬ (c : Int) < 32 := by omega
    have e2 : ¬ (126 : Int) < c := by omega
    have q34 : ((c : Int) == 34) = false := by simp; omega
    have q92 : ((c : Int) == 92) = false := by simp; omega
    go_wp2_with (at_builtin; refine wpList_push rfl _ _ 130 rfl w.heap.size 5 i0 (.int .u8 0) 1 Tryz.underlying130 hi hz0 hz1 hz2 rfl byteV byteV_one _ _ rfl Ho.out _ _ rfl h63 (by omega) HBr.out.size ch (by unfold byteV; rw [← hc]) ?_; intro v' w' Ho' hb' hnn)
    go_roundw
    case rel => exact ⟨k + 1, A ++ [ch], Hlt.out, by go_num, Lib.hid (by simpa using Ho'), HQ3.out, HBr.out.trans hb'⟩
    case measure => have := Hlt.out; simp [intOf]; omega
end Go.Proofs.YthfljcpfcnddhaaGreatDoor
