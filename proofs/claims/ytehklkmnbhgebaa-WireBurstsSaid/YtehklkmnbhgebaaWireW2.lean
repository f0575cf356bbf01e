/- The walks of wire.table, wire.Sum and the document's Remainder. -/
import Derived.Test.YtehklkmnbhgebaaWireW1
import Derived.Test.YtehklkmnbhgebaaWire2
namespace Go.Proofs.Ytehklkmnbhgebaa
open Go Go.RowKit

def zeroTab : Array Value := Array.replicate 256 (.int .u32 0)
theorem info_tab : (Try.prog.info? 36).map (fun i => (i.zero, i.size, i.bytes)) = some (some (.agg zeroTab), 256, 1024) := by kernel_rfl

theorem take_snoc (s : ByteArray) (k : Nat) (h : k < s.size) : s.data.toList.take (k + 1) = s.data.toList.take k ++ [s[k]] := by
  rw [List.take_succ_eq_append_getElem (by simpa using h)]; rfl

set_option maxHeartbeats 400000 in
theorem remainder_any (s : ByteArray) (w : World) (hs : s.size ≤ 2000) :
    Calls Try.prog 14 #[.string s] w fun e w' => e = .returned (.int .u32 (crc s.data.toList : Nat)) ∧ w' = w := by
  go_enter Try.func14, Try.ntmps14
  go_wp2
  go_loop [3, 4] (fun c i => ∃ k : Nat, k ≤ s.size ∧ i = .int .i64 k ∧ c = .int .u32 (crcRaw (s.data.toList.take k) : Nat)) (fun _ i => s.size - (intOf i).toNat)
  case atStart => exact ⟨0, Nat.zero_le _, rfl, rfl⟩
  case round =>
    obtain ⟨k, hk, rfl, rfl⟩ := hrel
    have hc := crcRaw_lt (s.data.toList.take k)
    by_cases hlt : k < s.size
    · have hx : bits .xor .u32 ((crcRaw (s.data.toList.take k) : Nat) : Int) ((s[k].toNat : Int) % 4294967296) = ((crcRaw (s.data.toList.take k) ^^^ s[k].toNat : Nat) : Int) := by
        have := s[k].toNat_lt
        rw [show ((s[k].toNat : Int) % 4294967296) = (s[k].toNat : Int) by omega]
        exact u32_xor_nat _ _ hc (by omega)
      have hx2 : crcRaw (s.data.toList.take k) ^^^ s[k].toNat < 4294967296 := xor_lt32 hc (Nat.lt_trans s[k].toNat_lt (by decide))
      have hn : crcRaw (s.data.toList.take (k + 1)) = crcN 8 (crcRaw (s.data.toList.take k) ^^^ s[k].toNat) := by
        rw [take_snoc s k hlt, crcRaw_snoc]; rfl
      have Hn := Lib.hid hn; clear hn
      go_wp2
      clear hx
      generalize hX : crcRaw (s.data.toList.take k) ^^^ s[k].toNat = X at *
      clear hX
      go_loop [3, 5] (fun c j => ∃ m : Nat, m ≤ 8 ∧ j = .int .i64 m ∧ c = .int .u32 (crcN m X : Nat)) (fun _ j => 8 - (intOf j).toNat)
      case atStart => exact ⟨0, by omega, rfl, rfl⟩
      case round =>
        obtain ⟨m, hm, rfl, rfl⟩ := hrel
        have hcm := crcN_lt m hx2
        have hs := crcN_succ m X
        unfold crcBit at hs
        by_cases hlt2 : m < 8
        · by_cases hodd : crcN m X % 2 = 1
          · rw [if_pos hodd] at hs
            have Hs := Lib.hid hs; clear hs
            go_wp2
            go_round
            case rel => exact ⟨m + 1, by omega, by go_num, by rw [Hs.out]; exact congrArg _ (u32_xor_nat (crcN m X / 2) 3988292384 (by omega) (by decide))⟩
            case measure => simp [intOf]; omega
          · rw [if_neg hodd] at hs
            have Hs := Lib.hid hs; clear hs
            go_wp2
            go_round
            case rel => exact ⟨m + 1, by omega, by go_num, by rw [Hs.out]; rfl⟩
            case measure => simp [intOf]; omega
        · obtain rfl : m = 8 := by omega
          clear hs
          go_wp2
          go_round
          case rel => exact ⟨k + 1, by omega, by go_num, by rw [Hn.out]⟩
          case measure => simp [intOf]; omega
    · obtain rfl : k = s.size := by omega
      have ht : s.data.toList.take s.size = s.data.toList := List.take_of_length_le (by simp)
      have Ht := Lib.hid ht; clear ht
      go_wp2
      go_ret
      refine ⟨ret_of ?_, rfl⟩
      show Value.int .u32 (bits .xor .u32 ((crcRaw (List.take s.size s.data.toList) : Nat) : Int) 4294967295) = _
      rw [Ht.out]
      rw [Ht.out] at hc
      exact congrArg _ (u32_xor_nat _ 4294967295 hc (by decide))

/-- the table when so many of its places are written -/
def tabTo (k : Nat) : Array Value := ((List.range 256).map fun i => if i < k then Value.int .u32 ((crcN 8 i : Nat) : Int) else .int .u32 0).toArray
theorem size_tabTo (k : Nat) : (tabTo k).size = 256 := by simp [tabTo]
theorem tabTo_zero : tabTo 0 = zeroTab := by kernel_rfl
theorem tabTo_set (k : Nat) : (tabTo k).setIfInBounds k (.int .u32 ((crcN 8 k : Nat) : Int)) = tabTo (k + 1) := by
  apply Array.ext
  · simp [tabTo]
  · intro i h1 h2
    simp only [tabTo, Array.size_setIfInBounds, List.size_toArray, List.length_map, List.length_range] at h1
    by_cases h : k = i
    · subst h; simp [tabTo]
    · simp [tabTo, h]
      by_cases h3 : i < k
      · simp [h3, show i < k + 1 by omega]
      · simp [h3, show ¬ i < k + 1 by omega]
theorem tabTo_get (i : Nat) (h : i < 256) : (tabTo 256)[i]? = some (.int .u32 ((crcN 8 i : Nat) : Int)) := by
  simp [tabTo, h]

/-- a new variable of whatever type, its zero value known by its table's row -/
theorem wpList_alloc_row {P : Program} {w : World} {ops : Array Oper} {rest : List Oper} {o : Oper} {a : Act} {Q : Exit → Act → World → Prop} (hg : o.guard = none) (ty : TypeId) (ho : o.op = .alloc ty)
    (i : TypeInfo) (z : Value) (zc : Array Value) (hi : P.info? ty = some i) (hz : i.zero = some z) (hzc : z.cells = zc)
    (h : wpList P ops Q rest (a.put o.dst (.pointer (some ⟨w.heap.size, 0, none⟩))) (w.alloc (.cells zc ty))) : wpList P ops Q (o :: rest) a w := by
  subst hzc
  refine wpList_plain hg fun K hK => ?_
  unfold Oper.wp execOp
  simp only [ho, Instr.alloc, zeroValue, typeInfo, newVar, newRow, newObj]
  simp [hi, hz, Result.andThen]
  exact hK _ _ h

/-- a whole row stored -/
theorem wpList_store_row {P : Program} {w : World} {ops : Array Oper} {rest : List Oper} {o : Oper} {a : Act} {Q : Exit → Act → World → Prop} (hgd : o.guard = none) (hd : o.dst = none) (ty : TypeId) (x v : Operand) (ho : o.op = .store ty x v)
    (g : Nat) (hx : a.eval x = .pointer (some ⟨g, 0, none⟩)) (old cells : Array Value) (hv : a.eval v = .agg cells) (t : TypeId) (hg : w.heap[g]? = some (.cells old t (0, 0)))
    (hi : (P.info? ty).map (·.size) = some cells.size) (hs : old.size = cells.size) (h1 : cells.all (·.oneCell') = true)
    (h : wpList P ops Q rest a (w.setRow g cells)) : wpList P ops Q (o :: rest) a w := by
  refine wpList_plain hgd fun K hK => ?_
  have hr := run_storeVar_row (P := P) w g t ty old cells hg hi hs h1
  unfold Oper.wp execOp
  simp [ho, hx, hv, Instr.storeAt, Instr.sureAddr, hr, Result.andThen, Oper.upon_skip, Act.put, hd]
  exact hK _ _ h

theorem tabTo_one (k : Nat) : (tabTo k).all (·.oneCell') = true := by
  rw [Array.all_eq_true_iff_forall_mem]
  intro v hv
  simp only [tabTo, List.mem_toArray, List.mem_map] at hv
  obtain ⟨i, _, rfl⟩ := hv
  split <;> rfl

theorem below_setRow {B g : Nat} {a w : World} (h : Below B a w) (hg : B ≤ g) (cs : Array Value) : Below B a (w.setRow g cs) :=
  h.trans ⟨rfl, rfl, rfl, by simp, fun k hk => setRow_other w g k cs (by omega)⟩

theorem and1_u32 (c : Nat) (h : c < 4294967296) : bits .and .u32 (c : Int) 1 = ((c % 2 : Nat) : Int) := by
  rw [show (1 : Int) = ((1 : Nat) : Int) from rfl, u32_and_nat c 1 h (by decide), nat_mask1]

set_option maxRecDepth 100000 in
set_option maxHeartbeats 1000000 in
theorem table_any (w : World) :
    Calls Try.prog 16 #[] w fun e w' => e = .returned (.agg (tabTo 256)) ∧ Below w.heap.size w w' := by
  obtain ⟨i0, hi, hz0, hz1, hz2⟩ := info_parts info_tab
  go_enter Try.func16, Try.ntmps16
  go_wp2_with (refine wpList_alloc_row rfl 36 rfl i0 (.agg zeroTab) zeroTab hi hz0 rfl ?_)
  have hb0 : Below w.heap.size w ((w.alloc (.cells zeroTab 36)).alloc (.cells zeroTab 36)) := ((Below.refl _ _).alloc (Nat.le_refl _) _).alloc (by simp) _
  have hB0 : ((w.alloc (.cells zeroTab 36)).alloc (.cells zeroTab 36)).heap[w.heap.size]? = some (.cells (tabTo 0) 36) := by rw [tabTo_zero]; exact heap_alloc2_old _ _ _
  have hB1 : ((w.alloc (.cells zeroTab 36)).alloc (.cells zeroTab 36)).heap[w.heap.size + 1]? = some (.cells (tabTo 0) 36) := by rw [tabTo_zero]; exact heap_alloc2_new _ _ _
  generalize ((w.alloc (.cells zeroTab 36)).alloc (.cells zeroTab 36)) = w1 at *
  go_loopw [4] (fun i wr => ∃ k : Nat, k ≤ 256 ∧ i = .int .i64 k ∧ wr.heap[w.heap.size]? = some (.cells (tabTo 0) 36) ∧ wr.heap[w.heap.size + 1]? = some (.cells (tabTo k) 36) ∧ Below w.heap.size w wr) (fun i _ => 256 - (intOf i).toNat)
  case atStart => exact ⟨0, by omega, rfl, hB0, hB1, hb0⟩
  case round =>
    obtain ⟨k, hk, rfl, h0, h1, hb⟩ := hrel
    clear hb0 hB0 hB1 hi hz0 hz1 hz2
    have H0 := Lib.hid h0; have H1 := Lib.hid h1; clear h0 h1
    by_cases hlt : k < 256
    · go_wp2
      obtain ⟨wo, hwo⟩ : ∃ wo : World, wo = wr := ⟨_, rfl⟩
      subst hwo
      go_loop [3, 9] (fun c j => ∃ m : Nat, m ≤ 8 ∧ j = .int .i64 m ∧ c = .int .u32 (crcN m k : Nat)) (fun _ j => 8 - (intOf j).toNat)
      case atStart => exact ⟨0, by omega, rfl, rfl⟩
      case round =>
        obtain ⟨m, hm, rfl, rfl⟩ := hrel
        have hcm := crcN_lt (c := k) m (by omega)
        have hs := crcN_succ m k
        have ha := and1_u32 _ hcm
        unfold crcBit at hs
        by_cases hlt2 : m < 8
        · by_cases hodd : crcN m k % 2 = 1
          · rw [if_pos hodd] at hs
            rw [hodd] at ha
            have Hs := Lib.hid hs; clear hs
            go_wp2
            go_round
            case rel => exact ⟨m + 1, by omega, by go_num, by rw [Hs.out]; exact congrArg _ (u32_xor_nat (crcN m k / 2) 3988292384 (by omega) (by decide))⟩
            case measure => simp [intOf]; omega
          · rw [if_neg hodd] at hs
            rw [show crcN m k % 2 = 0 by omega] at ha
            have Hs := Lib.hid hs; clear hs
            go_wp2
            go_round
            case rel => exact ⟨m + 1, by omega, by go_num, by rw [Hs.out]; exact congrArg _ ((u32_xor_nat (crcN m k / 2) 0 (by omega) (by decide)).trans (by rw [Nat.xor_zero]))⟩
            case measure => simp [intOf]; omega
        · obtain rfl : m = 8 := by omega
          clear hs ha
          have hcell : wo.cell? ⟨w.heap.size + 1, k, none⟩ = some ((tabTo k)[k]'(by simp [tabTo]; omega)) := by
            rw [cell_of_row wo _ _ _ _ _ H1.out]; simp
          have hfroz : wo.frozen? ⟨w.heap.size + 1, k, none⟩ = false := frozen_of_row wo _ _ _ _ H1.out
          go_wp2
          go_roundw
          case rel =>
            refine ⟨k + 1, by omega, by go_num, ?_, ?_, hb.setCell (by simp) _⟩
            · rw [heap_setCell_other _ _ _ _ (by simp)]; exact H0.out
            · rw [heap_setCell_same _ _ _ _ _ _ H1.out, tabTo_set]
          case measure => simp [intOf]; omega
    · obtain rfl : k = 256 := by omega
      go_wp2_with (first | (refine wpList_load_row rfl 36 _ rfl _ rfl _ _ _ _ H1.out Try.underlying36 rfl (by kernel_rfl) ?_) | (refine wpList_store_row rfl rfl 36 _ _ rfl _ rfl _ (tabTo 256) rfl _ H0.out (by kernel_rfl) (by rw [size_tabTo, size_tabTo]) (tabTo_one 256) ?_))
      refine bodyPost_ret (v := .agg (tabTo 256)) (results_cell_row Try.results16 _ _ w.heap.size 36 _ (0, 0) _ rfl (setRow_heap _ _ _ _ _ _ H0.out) Try.underlying36 rfl (by kernel_rfl)) rfl ⟨rfl, below_setRow hb (Nat.le_refl _) _⟩
end Go.Proofs.Ytehklkmnbhgebaa
