/- The walks of enc's known, Check, size, plain at numbers, Plain; the closed fact four. -/
import Derived.Test.YthilhooomlhfpaaDoorEncW2
import Derived.Test.YthilhooomlhfpaaDoorBuild
import Derived.Test.YthilhooomlhfpaaDoorBitsW2
import Derived.StillTailTactics
import Derived.RegionTactic
namespace Go.Proofs.YthilhooomlhfpaaDoor
set_option linter.unusedVariables false
open Go Go.RowKit Go.ChangeShapes

set_option maxRecDepth 100000 in
set_option maxHeartbeats 1000000 in
theorem known_ok (kind n : Int) (w : World) (h1 : 1 ≤ kind) (h5 : kind ≤ 5) (h0 : 0 ≤ n) (hn : n ≤ 20000) :
    Calls Tryd.prog 84 #[.int .i64 kind, .int .i64 n] w fun e w' => e = .returned .nilIface ∧ w' = w := by
  go_enter Tryd.func84, Tryd.ntmps84
  go_wp2_with fail
  go_ret
  exact ⟨rfl, rfl⟩

theorem val_info : ∃ i, Tryd.prog.info? 34 = some i ∧ i.zero = some (.agg #[.int .i64 0, .int .i64 0, .string ByteArray.empty]) ∧ i.size = 3 := by
  have h1 := val_zero
  have h2 := val_size
  cases h : Tryd.prog.info? 34 with
  | none => rw [h] at h1; cases h1
  | some i => rw [h] at h1 h2; exact ⟨i, rfl, by simpa using h1, by simpa using h2⟩

set_option maxRecDepth 100000 in
set_option maxHeartbeats 1000000 in
theorem check_vals (kind : Int) (v : Value) (l : List Val) (w : World) (hI : IsVals w v l) (h1 : 1 ≤ kind) (h5 : kind ≤ 5) (hl : l.length ≤ 20000) (hO : ∀ x ∈ l, x.Ok) (hP : ∀ x ∈ l, OkP kind x) :
    Calls Tryd.prog 53 #[.int .i64 kind, v] w fun e w' => e = .returned .nilIface ∧ Below w.heap.size w w' := by
  obtain ⟨iv, hiv, hzv, hsv⟩ := val_info
  have hsz : (Tryd.prog.info? 34).map (·.size) = some (valA ⟨0, 0, ⟨#[]⟩⟩).size := by rw [hiv]; simp [hsv, valA]
  have HI := Lib.hid hI; have HO := Lib.hid hO; have HP := Lib.hid hP
  obtain ⟨ad, cap, rfl⟩ := hI.form
  clear hI hO hP
  go_enter Tryd.func53, Tryd.ntmps53
  go_wp2_with fail
  refine (known_ok kind l.length w h1 h5 (by omega) (by omega)).mono ?_; rintro e w1 ⟨rfl, rfl⟩
  go_wp2_with fail
  go_loopw [17] (fun i wr => ∃ k : Nat, k ≤ l.length ∧ i = .int .i64 (k : Nat) ∧ Below w1.heap.size w1 wr) (fun i _ => l.length - (intOf i).toNat)
  case atStart => exact ⟨0, Nat.zero_le _, rfl, Below.refl _ _⟩
  case round =>
    obtain ⟨k, hk, rfl, hb⟩ := hrel
    by_cases hlt : k < l.length
    · obtain ⟨b0, off, rfl, hq, hlt0, hc⟩ := (HI.out.below hb (Nat.le_refl _)).at (by omega)
      have hcx := hc k l[k] (List.getElem?_eq_getElem hlt)
      have hox := HO.out l[k] (List.getElem_mem hlt)
      have hpx := HP.out l[k] (List.getElem_mem hlt)
      generalize l[k] = x at *
      have hOK := Lib.hid (fun w2 => ok_yes kind x hox w2 hpx)
      have Hcx := Lib.hid hcx.cells
      clear hq hc hcx hox hpx
      have hin : (k : Int) < (l.length : Int) := by omega
      go_wp2_with (first
        | (refine wpList_load_cells rfl 34 _ rfl b0 (off + k * 3) rfl (valA x) _ Hcx.out Tryd.underlying34 rfl hsz ?_)
        | (refine wpList_alloc_row rfl 34 rfl iv _ _ hiv hzv rfl ?_)
        | (refine wpList_store_new rfl rfl 34 _ _ rfl rfl _ (valA x) rfl hsz rfl (valA_one x) ?_)
        | (refine wpList_load_row rfl 34 _ rfl wr.heap.size rfl 34 (valA x) (0, 0) _ (heap_alloc_last _ _) Tryd.underlying34 rfl hsz ?_))
      refine (hOK.out _).mono ?_; rintro e w2 ⟨rfl, hb2⟩
      go_wp2_with fail
      go_roundw
      case rel => exact ⟨k + 1, by omega, by go_num, (hb.alloc hb.size _).trans (hb2.mono (by simp; have := hb.size; omega))⟩
      case measure => simp [intOf]; omega
    · go_wp2_with fail
      go_ret
      exact ⟨rfl, hb⟩

set_option maxRecDepth 100000 in
set_option maxHeartbeats 1000000 in
theorem string_fresh (b : Nat) (w : World) (h : w.heap[b]? = some (.cells #[.pointer none, .slice none 0 0] 169 (0, 0))) :
    Calls Tryd.prog 108 #[.pointer (some ⟨b, 0, none⟩)] w fun e w' => e = .returned (.string ⟨#[]⟩) ∧ Below w.heap.size w w' := by
  have c1 : w.cell? ⟨b, 1, none⟩ = some (.slice none 0 0) := by rw [Lib.cell_of_heap h]; rfl
  have hsd : ∀ w, (Builtin.unsafeSliceData_ #[78] 205 #[.slice none 0 0]).run Tryd.prog w = .ok (.pointer none) w := fun w => by kernel_rfl
  have hus : ∀ w, (Builtin.unsafeString_ #[205, 3] 9 #[.pointer none, .int .i64 0]).run Tryd.prog w = .ok (.string ⟨#[]⟩) w := fun w => by kernel_rfl
  go_enter Tryd.func108, Tryd.ntmps108
  go_wp2_with fail
  go_region
  all_goals
    go_wp2_with fail
    go_ret
    exact ⟨rfl, (Below.refl _ _).drew⟩

/-- a number's bits -/
def uN (x : Val) : Nat := (x.n % 18446744073709551616).toNat
theorem uN_wrap (x : Val) : IntKind.u64.wrap x.n = (uN x : Int) := by
  unfold uN; rw [IntKind.wrap_u64]; omega
theorem uN_lt (x : Val) : uN x < 18446744073709551616 := by unfold uN; omega
def numsOf (wd : Nat) (l : List Val) : List Nat := l.map fun x => uN x % 2 ^ wd
theorem numsOf_lt (wd : Nat) (l : List Val) : ∀ n ∈ numsOf wd l, n < 2 ^ wd := by
  intro n hn
  obtain ⟨x, _, rfl⟩ := List.mem_map.1 hn
  exact Nat.mod_lt _ (Nat.pow_pos (by decide))

theorem own_keep {w w' : World} {B n : Nat} {e : TypeId} {v : Value} {xs : List Value} (h : w.ownsRow B e 1 v n xs) (hb : Below w.heap.size w w') : w'.ownsRow B e 1 v n xs := by
  refine ⟨h.1, ?_⟩
  rcases h.2 with h0 | ⟨g, cap, cur, hv, h1, h2, h3⟩
  · exact .inl h0
  · exact .inr ⟨g, cap, cur, hv, h1, (hb.block g (Array.getElem?_eq_some_iff.1 h2).1).trans h2, h3⟩
theorem BitsAt.below {B b m V : Nat} {w w' : World} (h : BitsAt B b m V w) (hb : Below w.heap.size w w') : BitsAt B b m V w' := by
  obtain ⟨hB, v, h1, h2⟩ := h
  exact ⟨hB, v, (hb.block b (Array.getElem?_eq_some_iff.1 h1).1).trans h1, own_keep h2 hb⟩

set_option maxRecDepth 100000 in
set_option maxHeartbeats 1000000 in
theorem sizeE (kind : Int) (z : Nat) (w : World) (h : kind = 2 ∧ z = 4 ∨ kind = 3 ∧ z = 8 ∨ kind = 5 ∧ z = 8) :
    Calls Tryd.prog 123 #[.int .i64 kind] w fun e w' => e = .returned (.int .i64 (z : Nat)) ∧ w' = w := by
  rcases h with ⟨rfl, rfl⟩ | ⟨rfl, rfl⟩ | ⟨rfl, rfl⟩
  all_goals
    go_enter Tryd.func123, Tryd.ntmps123
    go_wp2_with fail
    go_ret
    exact ⟨rfl, rfl⟩

/-- the kinds of numbers and their widths -/
def WdOf (kind : Int) (wd : Nat) : Prop := kind = 1 ∧ wd = 1 ∨ kind = 2 ∧ wd = 32 ∨ kind = 3 ∧ wd = 64 ∨ kind = 5 ∧ wd = 64

set_option maxRecDepth 100000 in
set_option maxHeartbeats 2000000 in
theorem plain_nums (kind : Int) (wd : Nat) (hk : WdOf kind wd) (v : Value) (l : List Val) (w : World) (hI : IsVals w v l) (hl : l.length ≤ 20000) (hO : ∀ x ∈ l, x.Ok) :
    Calls Tryd.prog 121 #[.int .i64 kind, v] w fun e w' => e = .returned (.string ⟨(packed wd (numsOf wd l)).toArray⟩) ∧ Below w.heap.size w w' := by
  obtain ⟨iv, hiv, hzv, hsv⟩ := val_info
  have hsz : (Tryd.prog.info? 34).map (·.size) = some (valA ⟨0, 0, ⟨#[]⟩⟩).size := by rw [hiv]; simp [hsv, valA]
  have hwd : wd ≤ 64 := by unfold WdOf at hk; omega
  have hW2 : ∀ u v, Below w.heap.size w ((w.alloc u).alloc v) := fun u v => ((Below.refl _ _).alloc (Nat.le_refl _) _).alloc (by simp) _
  have hBd0 : BuildAt w.heap.size w.heap.size [] ((w.alloc (.cells #[.pointer none, .slice none 0 0] 169)).alloc (.cells #[.slice none 0 0, .int .i64 0] 222)) :=
    (BuildAt.fresh w).below ((Below.refl _ _).alloc (Nat.le_refl _) _)
  have hBt0 : BitsAt (w.heap.size + 1) (w.heap.size + 1) 0 0 ((w.alloc (.cells #[.pointer none, .slice none 0 0] 169)).alloc (.cells #[.slice none 0 0, .int .i64 0] 222)) :=
    ⟨Nat.le_refl _, .slice none 0 0, by simpa using heap_alloc_new (w.alloc (.cells #[.pointer none, .slice none 0 0] 169)) (.cells #[.slice none 0 0, .int .i64 0] 222), World.ownsRow_nil _ _ _ _⟩
  have hsz2 : ((w.alloc (.cells #[.pointer none, .slice none 0 0] 169)).alloc (.cells #[.slice none 0 0, .int .i64 0] 222)).heap.size = w.heap.size + 2 := by simp
  have hbw := hW2 (.cells #[.pointer none, .slice none 0 0] 169) (.cells #[.slice none 0 0, .int .i64 0] 222)
  have hbk0 : ((w.alloc (.cells #[.pointer none, .slice none 0 0] 169)).alloc (.cells #[.slice none 0 0, .int .i64 0] 222)).heap[w.heap.size]? = some (.cells #[.pointer none, .slice none 0 0] 169 (0, 0)) := by
    rw [Lib.alloc_old _ _ _ (by simp)]; exact heap_alloc_new w _
  have Hbk0 := Lib.hid hbk0
  clear hbk0
  have HI := Lib.hid hI; have HO := Lib.hid hO; have HBd := Lib.hid hBd0; have HBt := Lib.hid hBt0; have Hsz2 := Lib.hid hsz2; have Hbw := Lib.hid hbw
  obtain ⟨ad, cap, rfl⟩ := hI.form
  clear hI hO hW2 hBd0 hBt0 hsz2 hbw
  go_enter Tryd.func121, Tryd.ntmps121
  go_wp2_with fail
  generalize (w.alloc (.cells #[.pointer none, .slice none 0 0] 169)).alloc (.cells #[.slice none 0 0, .int .i64 0] 222) = W2 at *
  go_loopw [11] (fun i wr => ∃ k : Nat, k ≤ l.length ∧ i = .int .i64 (k : Nat) ∧ BitsAt (w.heap.size + 1) (w.heap.size + 1) (k * wd) (packN wd (numsOf wd (l.take k))) wr ∧ Below (w.heap.size + 1) W2 wr) (fun i _ => l.length - (intOf i).toNat)
  case atStart => exact ⟨0, Nat.zero_le _, rfl, by simpa [numsOf, packN] using HBt.out, Below.refl _ _⟩
  case round =>
    obtain ⟨k, hkl, rfl, hbt, hb⟩ := hrel
    have hbwr : Below w.heap.size w wr := Hbw.out.trans (hb.mono (by omega))
    have hs2 : w.heap.size + 2 ≤ wr.heap.size := by have := hb.size; rw [Hsz2.out] at this; exact this
    have Hbt := Lib.hid hbt; have Hb := Lib.hid hb
    clear hbt hb
    by_cases hlt : k < l.length
    · obtain ⟨b0, off, rfl, hq, hlt0, hc⟩ := (HI.out.below hbwr (Nat.le_refl _)).at (by omega)
      have hcx := hc k l[k] (List.getElem?_eq_getElem hlt)
      have hox := HO.out l[k] (List.getElem_mem hlt)
      have hn : l.take (k + 1) = l.take k ++ [l[k]] := List.take_succ_eq_append_getElem hlt
      generalize l[k] = x at *
      have Hcx := Lib.hid hcx.cells
      have hin : (k : Int) < (l.length : Int) := by omega
      have hcv := uN_wrap x
      have hul := uN_lt x
      have hkw : k * wd ≤ 20000 * 64 := Nat.mul_le_mul (by omega) hwd
      have hlk : (numsOf wd (l.take k)).length = k := by simp [numsOf]; omega
      have hV : packN wd (numsOf wd (l.take k)) < 2 ^ (k * wd) := by have := packN_lt wd _ (numsOf_lt wd (l.take k)); rwa [hlk] at this
      have hN : packN wd (numsOf wd (l.take (k + 1))) = packN wd (numsOf wd (l.take k)) + uN x % 2 ^ wd * 2 ^ (k * wd) := by
        have e : numsOf wd (l.take (k + 1)) = numsOf wd (l.take k) ++ [uN x % 2 ^ wd] := by rw [hn]; simp [numsOf]
        rw [e, packN_snoc, hlk]
      have HN := Lib.hid hN
      have c1 : (wr.alloc (.cells (valA x) 34)).cell? ⟨wr.heap.size, 1, none⟩ = some (.int .i64 x.n) := by rw [World.cell?_alloc_at _ _ _ _ rfl]; rfl
      have HPut := Lib.hid (fun w3 h h3 => put_any (w.heap.size + 1) (w.heap.size + 1) (k * wd) (packN wd (numsOf wd (l.take k))) (uN x) wd w3 h hV hul hwd (by omega) h3)
      have hbn : Below wr.heap.size wr (wr.alloc (.cells (valA x) 34)) := (Below.refl _ _).alloc (Nat.le_refl _) _
      have Hbn := Lib.hid hbn
      clear hq hc hcx hox hn hkw hlk hV hN hul hbn
      rcases hk with ⟨rfl, rfl⟩ | ⟨rfl, rfl⟩ | ⟨rfl, rfl⟩ | ⟨rfl, rfl⟩
      all_goals
        go_wp2_with (first
          | (refine wpList_load_cells rfl 34 _ rfl b0 (off + k * 3) rfl (valA x) _ Hcx.out Tryd.underlying34 rfl hsz ?_)
          | (refine wpList_alloc_row rfl 34 rfl iv _ _ hiv hzv rfl ?_)
          | (refine wpList_store_new rfl rfl 34 _ _ rfl rfl _ (valA x) rfl hsz rfl (valA_one x) ?_))
      focus
        refine (HPut.out _ (Hbt.out.below Hbn.out) (by simp; omega)).mono ?_; rintro e w4 ⟨rfl, hbt4, _, hb4⟩
      rotate_left
      focus
        generalize wr.alloc (.cells (valA x) 34) = wn at *
        go_still_tail 6, (by kernel_rfl)
        still_call (sizeE 2 4 _ (.inl ⟨rfl, rfl⟩))
        repeat still_step
        refine wpStill_nil ?_
        change wpList _ _ _ _ _ wn.drew
        go_wp2_with fail
        refine (HPut.out _ (Hbt.out.below Hbn.out.drew) (by have := Hbn.out.size; show _ ≤ wn.heap.size; omega)).mono ?_; rintro e w4 ⟨rfl, hbt4, _, hb4⟩
      rotate_left
      focus
        generalize wr.alloc (.cells (valA x) 34) = wn at *
        go_still_tail 6, (by kernel_rfl)
        still_call (sizeE 3 8 _ (.inr (.inl ⟨rfl, rfl⟩)))
        repeat still_step
        refine wpStill_nil ?_
        change wpList _ _ _ _ _ wn.drew
        go_wp2_with fail
        refine (HPut.out _ (Hbt.out.below Hbn.out.drew) (by have := Hbn.out.size; show _ ≤ wn.heap.size; omega)).mono ?_; rintro e w4 ⟨rfl, hbt4, _, hb4⟩
      rotate_left
      focus
        generalize wr.alloc (.cells (valA x) 34) = wn at *
        go_still_tail 6, (by kernel_rfl)
        still_call (sizeE 5 8 _ (.inr (.inr ⟨rfl, rfl⟩)))
        repeat still_step
        refine wpStill_nil ?_
        change wpList _ _ _ _ _ wn.drew
        go_wp2_with fail
        refine (HPut.out _ (Hbt.out.below Hbn.out.drew) (by have := Hbn.out.size; show _ ≤ wn.heap.size; omega)).mono ?_; rintro e w4 ⟨rfl, hbt4, _, hb4⟩
      rotate_left
      all_goals
        have Hbt4 := Lib.hid hbt4
        have hb4' : Below (w.heap.size + 1) wr w4 := by first | exact (Hbn.out.mono (by omega)).trans hb4 | exact (Hbn.out.drew.mono (by omega)).trans hb4
        clear hbt4 hb4
        go_wp2_with fail
        go_roundw
        case rel => exact ⟨k + 1, by omega, by go_num, by rw [HN.out, Nat.add_one_mul]; exact Hbt4.out, Hb.out.trans hb4'⟩
        case measure => simp [intOf]; omega
    · obtain rfl : k = l.length := by omega
      rw [List.take_length] at Hbt
      have hbk : wr.heap[w.heap.size]? = some (.cells #[.pointer none, .slice none 0 0] 169 (0, 0)) := (Hb.out.block w.heap.size (by omega)).trans Hbk0.out
      have Hbk := Lib.hid hbk
      have hpk : packed wd (numsOf wd l) = bytesOf (l.length * wd) (packN wd (numsOf wd l)) := by simp [packed, numsOf]
      have Hpk := Lib.hid hpk
      have hpl : (bytesOf (l.length * wd) (packN wd (numsOf wd l))).length ≤ 200000 := by
        rw [bytesOf_len]
        have : l.length * wd ≤ 20000 * 64 := Nat.mul_le_mul hl hwd
        omega
      have HT := Lib.hid (fun w5 h => text_bits (w.heap.size + 1) (w.heap.size + 1) (l.length * wd) (packN wd (numsOf wd l)) w5 h)
      clear hbk hpk
      generalize bytesOf (l.length * wd) (packN wd (numsOf wd l)) = pk at *
      go_wp2_with fail
      refine (string_fresh w.heap.size wr Hbk.out).mono ?_; rintro e w3 ⟨rfl, hb3⟩
      go_wp2_with fail
      refine (HT.out w3 (Hbt.out.below hb3)).mono ?_; rintro e w4 ⟨rfl, rfl⟩
      go_wp2_with fail
      go_ret
      exact ⟨ret_of (by
        rw [Hpk.out]
        show Value.string (ByteArray.mk [].toArray ++ ByteArray.mk pk.toArray) = _
        rw [ByteArray.mk_append_mk]
        rfl), hbwr.trans (hb3.mono hbwr.size)⟩


set_option maxRecDepth 100000 in
set_option maxHeartbeats 1000000 in
theorem Plain_nums (kind : Int) (wd : Nat) (hk : WdOf kind wd) (v : Value) (l : List Val) (w : World) (hI : IsVals w v l) (hl : l.length ≤ 20000) (hO : ∀ x ∈ l, x.Ok) (hP : ∀ x ∈ l, OkP kind x) :
    Calls Tryd.prog 85 #[.int .i64 kind, v] w fun e w' => e = .returned (.tuple #[.string ⟨(packed wd (numsOf wd l)).toArray⟩, .nilIface]) ∧ Below w.heap.size w w' := by
  have h1 : 1 ≤ kind := by unfold WdOf at hk; omega
  have h5 : kind ≤ 5 := by unfold WdOf at hk; omega
  have HC := Lib.hid (check_vals kind v l w hI h1 h5 hl hO hP)
  have HQ := Lib.hid (fun w1 (h : Below w.heap.size w w1) => plain_nums kind wd hk v l w1 (hI.below h (Nat.le_refl _)) hl hO)
  obtain ⟨ad, cap, rfl⟩ := hI.form
  clear hI hO hP
  go_enter Tryd.func85, Tryd.ntmps85
  go_wp2_with fail
  refine HC.out.mono ?_; rintro e w1 ⟨rfl, hb1⟩
  go_wp2_with fail
  refine (HQ.out w1 hb1).mono ?_; rintro e w2 ⟨rfl, hb2⟩
  go_wp2_with fail
  go_ret2
  exact ⟨rfl, below_trans hb1 hb2⟩

def fourV : Val := ⟨2, -2, ⟨#[]⟩⟩
theorem four_bytes : packed 32 (numsOf 32 [fourV]) = [254, 255, 255, 255] := by decide +kernel

end Go.Proofs.YthilhooomlhfpaaDoor
