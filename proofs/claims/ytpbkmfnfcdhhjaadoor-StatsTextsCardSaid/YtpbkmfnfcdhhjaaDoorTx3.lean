/- The reader of stats: plain Lean; the walks of its methods number, byte. -/
import Derived.Test.YtpbkmfnfcdhhjaaDoorSlim
import Derived.Test.YtpbkmfnfcdhhjaaDoorRd0
import Derived.Test.YtpbkmfnfcdhhjaaDoorMWire
import Derived.BigQuiet
import Derived.Deep.RegionHeld3
import Derived.Deep.DeepCutAuto
namespace Go.Proofs.YtpbkmfnfcdhhjaaDoor
set_option linter.unusedVariables false
open Go Go.RowKit Go.ChangeShapes

/-- where a reader stands -/
structure Rdr where
  pos : Nat
  bad : Bool
def numP (L : List UInt8) (r : Rdr) : Nat × Rdr := match readU (L.drop r.pos) with
  | some (n, k) => (min n 20000, ⟨r.pos + k, r.bad || decide (20000 < n)⟩)
  | none => (0, ⟨r.pos, true⟩)
def byteP (L : List UInt8) (r : Rdr) : Nat × Rdr := if r.bad = true ∨ L.length ≤ r.pos then (0, ⟨r.pos, true⟩) else (((L[r.pos]?).getD 0).toNat, ⟨r.pos + 1, false⟩)
def rdrA (s : ByteArray) (r : Rdr) : Array Value := #[.string s, .int .i64 (r.pos : Nat), .bool r.bad]
theorem numP_le {L : List UInt8} {r : Rdr} (h : r.pos ≤ L.length) : (numP L r).2.pos ≤ L.length ∧ (numP L r).1 ≤ 20000 := by
  unfold numP
  split
  · rename_i n k hr
    have := (readU_lt hr).2.2.1
    rw [List.length_drop] at this
    exact ⟨by show r.pos + k ≤ _; omega, Nat.min_le_right _ _⟩
  · exact ⟨h, Nat.zero_le _⟩
theorem byteP_le {L : List UInt8} {r : Rdr} (h : r.pos ≤ L.length) : (byteP L r).2.pos ≤ L.length ∧ (byteP L r).1 < 256 := by
  unfold byteP
  split
  · exact ⟨h, by show (0 : Nat) < 256; omega⟩
  · rename_i hn
    exact ⟨by show r.pos + 1 ≤ _; omega, (L[r.pos]?.getD 0).toNat_lt⟩

set_option maxRecDepth 100000 in
set_option maxHeartbeats 8000000 in
theorem rnumber_any (s : ByteArray) (hs : s.size ≤ 1000000) (r : Rdr) (h : r.pos ≤ s.size) (g : Nat) (T : TypeId) (w : World) (hg : w.heap[g]? = some (.cells (rdrA s r) T (0, 0))) (adr : Nat → Addr) (hE : ErrsAt w adr [1]) :
    Calls Tryd.prog 48 #[.pointer (some ⟨g, 0, none⟩)] w fun e w' => e = .returned (.int .i64 ((numP s.data.toList r).1 : Nat)) ∧ w'.heap[g]? = some (.cells (rdrA s (numP s.data.toList r).2) T (0, 0)) ∧ Below g w w' := by
  have hls : s.data.toList.length = s.size := by simp
  have hxs : (s.extract r.pos s.size).size ≤ maxLen := by rw [ByteArray.size_extract]; unfold maxLen; omega
  have hxl := bext_list s r.pos
  have HE := Lib.hid hE
  have RG := Lib.hid hg
  have hgl := row_lt hg
  obtain ⟨at_, bad⟩ := r
  simp only at h hxs hxl
  have Hlt := Lib.hid (fun n k (hr : readU (s.data.toList.drop at_) = some (n, k)) => readU_lt hr)
  unfold numP
  simp only
  have hz : (at_ : Int) ≤ (s.size : Int) := by omega
  have hz0 : ¬ (s.size : Int) < (at_ : Int) := by omega
  clear hE hg
  cases hr : readU (s.data.toList.drop at_) with
  | none =>
    have HR := Lib.hid (fun (w1 : World) (hE1 : ErrsAt w1 adr [1]) => readUvarint_none (s.extract at_ s.size) _ w1 hxs (hE1.cell 1 (by decide)) (by rw [hxl]; exact hr))
    clear hr Hlt hxs hxl
    simp only [rdrA] at RG
    have cG := rowc RG.out; have fG := rowf RG.out
    go_enter Tryd.func48, Tryd.ntmps48
    go_upto_region 1 with fail
    go_cut [3, 4, 5] (fun s3 s4 s5 wx => s3 = .int .u64 0 ∧ s4 = .int .i64 0 ∧ s5 = .iface 222 (.pointer (some (adr 1))) ∧ Below w.heap.size w wx)
    case first =>
      have HB := Lib.hid (Below.refl w.heap.size w)
      go_region_held3 (fun w' => ∀ j, w'.cell? ⟨g, j, none⟩ = (#[.string s, .int .i64 (at_ : Nat), .bool bad] : Array Value)[j]?) (first | (with_reducible exact rowc RG.out) | (with_reducible exact rowc_drew RG.out))
        (first
        | (go_at_call 77; (with_reducible refine (HR.out _ ?_).mono ?_); (focus (first | exact HE.out.below HB.out | exact HE.out.below HB.out.drew)); rintro e w9 ⟨rfl, hb9⟩; (first | (with_reducible have hbs := drew_first hb9) | (have hbs := hb9)); replace RG := Lib.hid (row_keep hbs RG.out); replace HB := Lib.hid (HB.out.trans (hbs.mono HB.out.size)); clear hb9 hbs))
      all_goals (go_wp2_with fail; go_meet)
      all_goals (exact ⟨rfl, rfl, rfl, HB.out⟩)
    case rest =>
      obtain ⟨rfl, rfl, rfl, hbx⟩ := hcut
      have RGx := Lib.hid (row_keep hbx RG.out); have Hbx := Lib.hid hbx
      clear RG cG fG hbx
      have cG := rowc RGx.out; have fG := rowf RGx.out
      cases bad
      all_goals
        go_wp2_with fail
        go_ret
        obtain ⟨p1, -, p3, -⟩ := store_cell_row (j := 2) (v := .bool true) RGx.out
        obtain ⟨q1, -, q3, -⟩ := store_cell_row (j := 1) (v := .int .i64 (at_ : Nat)) p1
        exact ⟨rfl, q1, (Hbx.out.mono (by omega)).trans (p3.trans q3)⟩
  | some nk =>
    obtain ⟨n, k⟩ := nk
    obtain ⟨hn64, -, hkl, hk10⟩ := Hlt.out n k hr
    rw [List.length_drop, hls] at hkl
    have hak : at_ + k ≤ s.size := by omega
    have HR := Lib.hid (fun (w1 : World) (hE1 : ErrsAt w1 adr [1]) => readUvarint_some (s.extract at_ s.size) _ w1 hxs (hE1.cell 1 (by decide)) (by rw [hxl]; exact hr))
    clear hls hkl hk10
    show Calls _ _ _ _ fun e w' => e = .returned (.int .i64 ((min n 20000 : Nat) : Int)) ∧ w'.heap[g]? = some (.cells (rdrA s ⟨at_ + k, bad || decide (20000 < n)⟩) T (0, 0)) ∧ Below g w w'
    by_cases hn2 : n ≤ 20000
    · rw [show min n 20000 = n by omega, show decide (20000 < n) = false by simp; omega, Bool.or_false]
      have hmi : min (n : Int) 20000 = (n : Int) := by omega
      have hn3 : (n : Int) ≤ 20000 := by omega
      clear hr Hlt hxs hxl
      simp only [rdrA] at RG
      have cG := rowc RG.out; have fG := rowf RG.out
      go_enter Tryd.func48, Tryd.ntmps48
      go_upto_region 1 with fail
      go_cut [3, 4, 5] (fun s3 s4 s5 wx => s3 = .int .u64 (n : Nat) ∧ s4 = .int .i64 (k : Nat) ∧ s5 = .nilIface ∧ Below w.heap.size w wx)
      case first =>
        have HB := Lib.hid (Below.refl w.heap.size w)
        go_region_held3 (fun w' => ∀ j, w'.cell? ⟨g, j, none⟩ = (#[.string s, .int .i64 (at_ : Nat), .bool bad] : Array Value)[j]?) (first | (with_reducible exact rowc RG.out) | (with_reducible exact rowc_drew RG.out))
          (first
          | (go_at_call 77; (with_reducible refine (HR.out _ ?_).mono ?_); (focus (first | exact HE.out.below HB.out | exact HE.out.below HB.out.drew)); rintro e w9 ⟨rfl, hb9⟩; (first | (with_reducible have hbs := drew_first hb9) | (have hbs := hb9)); replace RG := Lib.hid (row_keep hbs RG.out); replace HB := Lib.hid (HB.out.trans (hbs.mono HB.out.size)); clear hb9 hbs))
        all_goals (go_wp2_with fail; go_meet)
        all_goals (exact ⟨rfl, rfl, rfl, HB.out⟩)
      case rest =>
        obtain ⟨rfl, rfl, rfl, hbx⟩ := hcut
        have RGx := Lib.hid (row_keep hbx RG.out); have Hbx := Lib.hid hbx
        clear RG cG fG hbx
        have cG := rowc RGx.out; have fG := rowf RGx.out
        cases bad
        · go_wp2_with fail
          go_ret
          obtain ⟨p1, -, p3, -⟩ := store_cell_row (j := 2) (v := .bool (decide (20000 < (n : Int)))) RGx.out
          obtain ⟨q1, -, q3, -⟩ := store_cell_row (j := 1) (v := .int .i64 ((at_ : Int) + (k : Int))) p1
          refine ⟨?_, q1.trans ?_, (Hbx.out.mono (by omega)).trans (p3.trans q3)⟩
          · exact rfl
          · simp [rdrA] <;> omega
        · go_wp2_with fail
          go_ret
          obtain ⟨p1, -, p3, -⟩ := store_cell_row (j := 2) (v := .bool true) RGx.out
          obtain ⟨q1, -, q3, -⟩ := store_cell_row (j := 1) (v := .int .i64 ((at_ : Int) + (k : Int))) p1
          refine ⟨?_, q1.trans ?_, (Hbx.out.mono (by omega)).trans (p3.trans q3)⟩
          · exact rfl
          · simp [rdrA] <;> omega
    · rw [show min n 20000 = 20000 by omega, show decide (20000 < n) = true by simp; omega, Bool.or_true]
      have hmi : min (n : Int) 20000 = 20000 := by omega
      have hn3 : ¬ (n : Int) ≤ 20000 := by omega
      clear hr Hlt hxs hxl
      simp only [rdrA] at RG
      have cG := rowc RG.out; have fG := rowf RG.out
      go_enter Tryd.func48, Tryd.ntmps48
      go_upto_region 1 with fail
      go_cut [3, 4, 5] (fun s3 s4 s5 wx => s3 = .int .u64 (n : Nat) ∧ s4 = .int .i64 (k : Nat) ∧ s5 = .nilIface ∧ Below w.heap.size w wx)
      case first =>
        have HB := Lib.hid (Below.refl w.heap.size w)
        go_region_held3 (fun w' => ∀ j, w'.cell? ⟨g, j, none⟩ = (#[.string s, .int .i64 (at_ : Nat), .bool bad] : Array Value)[j]?) (first | (with_reducible exact rowc RG.out) | (with_reducible exact rowc_drew RG.out))
          (first
          | (go_at_call 77; (with_reducible refine (HR.out _ ?_).mono ?_); (focus (first | exact HE.out.below HB.out | exact HE.out.below HB.out.drew)); rintro e w9 ⟨rfl, hb9⟩; (first | (with_reducible have hbs := drew_first hb9) | (have hbs := hb9)); replace RG := Lib.hid (row_keep hbs RG.out); replace HB := Lib.hid (HB.out.trans (hbs.mono HB.out.size)); clear hb9 hbs))
        all_goals (go_wp2_with fail; go_meet)
        all_goals (exact ⟨rfl, rfl, rfl, HB.out⟩)
      case rest =>
        obtain ⟨rfl, rfl, rfl, hbx⟩ := hcut
        have RGx := Lib.hid (row_keep hbx RG.out); have Hbx := Lib.hid hbx
        clear RG cG fG hbx
        have cG := rowc RGx.out; have fG := rowf RGx.out
        cases bad
        all_goals
          go_wp2_with fail
          go_ret
          obtain ⟨p1, -, p3, -⟩ := store_cell_row (j := 2) (v := .bool true) RGx.out
          obtain ⟨q1, -, q3, -⟩ := store_cell_row (j := 1) (v := .int .i64 ((at_ : Int) + (k : Int))) p1
          refine ⟨?_, q1.trans ?_, (Hbx.out.mono (by omega)).trans (p3.trans q3)⟩
          · exact rfl
          · simp [rdrA] <;> omega
set_option maxRecDepth 100000 in
set_option maxHeartbeats 8000000 in
theorem rbyte_bad (s : ByteArray) (hs : s.size ≤ 1000000) (r : Rdr) (h : r.pos ≤ s.size) (hb : r.bad = true ∨ s.size ≤ r.pos) (g : Nat) (T : TypeId) (w : World) (hg : w.heap[g]? = some (.cells (rdrA s r) T (0, 0))) :
    Calls Tryd.prog 49 #[.pointer (some ⟨g, 0, none⟩)] w fun e w' => e = .returned (.int .u8 0) ∧ w'.heap[g]? = some (.cells (rdrA s ⟨r.pos, true⟩) T (0, 0)) ∧ Below g w w' := by
  have RG := Lib.hid hg
  obtain ⟨at_, bad⟩ := r
  simp only at h hb ⊢
  clear hg
  simp only [rdrA] at RG
  have cG := rowc RG.out; have fG := rowf RG.out
  have hi : bad = false → s.size ≤ at_ := fun hf => by
    rcases hb with h1 | h1
    · rw [hf] at h1; cases h1
    · exact h1
  cases bad
  · have hi' := hi rfl
    have hi2 : (s.size : Int) ≤ (at_ : Int) := by omega
    have hi3 : decide (s.size ≤ at_) = true := by simpa using hi'
    clear hi hb
    go_enter Tryd.func49, Tryd.ntmps49
    go_wp2_with fail
    go_quiet (fail)
    go_wp2_with fail
    go_ret
    obtain ⟨p1, -, p3, -⟩ := store_cell_row (j := 2) (v := .bool true) (w := w.drewN nq) RG.out
    exact ⟨rfl, p1, (below_drewN (Below.refl _ _) nq).trans p3⟩
  · clear hi hb
    go_enter Tryd.func49, Tryd.ntmps49
    go_wp2_with fail
    go_quiet (fail)
    go_wp2_with fail
    go_ret
    obtain ⟨p1, -, p3, -⟩ := store_cell_row (j := 2) (v := .bool true) (w := w.drewN nq) RG.out
    exact ⟨rfl, p1, (below_drewN (Below.refl _ _) nq).trans p3⟩
theorem rbyte_ok (s : ByteArray) (hs : s.size ≤ 1000000) (at_ : Nat) (h : at_ < s.size) (g : Nat) (T : TypeId) (w : World) (hg : w.heap[g]? = some (.cells (rdrA s ⟨at_, false⟩) T (0, 0))) :
    Calls Tryd.prog 49 #[.pointer (some ⟨g, 0, none⟩)] w fun e w' => e = .returned (.int .u8 (((s.data.toList[at_]?).getD 0).toNat : Nat)) ∧ w'.heap[g]? = some (.cells (rdrA s ⟨at_ + 1, false⟩) T (0, 0)) ∧ Below g w w' := by
  have RG := Lib.hid hg
  clear hg
  simp only [rdrA] at RG
  have cG := rowc RG.out; have fG := rowf RG.out
  have hi3 : decide (s.size ≤ at_) = false := by simp; omega
  have hi2 : ¬ (s.size : Int) ≤ (at_ : Int) := by omega
  go_enter Tryd.func49, Tryd.ntmps49
  go_wp2_with fail
  go_quiet (fail)
  go_wp2_with fail
  obtain ⟨p1, -, p3, -⟩ := store_cell_row (j := 1) (v := .int .i64 ((at_ : Int) + 1)) (w := w.drewN nq) RG.out
  have RG1 := Lib.hid p1; have Hb1 := Lib.hid ((below_drewN (Below.refl g w) nq).trans p3)
  clear p1 p3 cG fG
  generalize (w.drewN nq).setCell ⟨g, 1, none⟩ (.int .i64 ((at_ : Int) + 1)) = w1 at *
  have cG := rowc RG1.out
  go_quiet (fail)
  go_wp2_with fail
  go_ret
  refine ⟨ret_of (?_ : Value.int .u8 _ = _), RG1.out, Hb1.out.trans (below_drewN (Below.refl g w1) _)⟩
  rw [List.getElem?_eq_getElem (by simpa using h)]
  rfl
/-- byte whole -/
theorem rbyte_any (s : ByteArray) (hs : s.size ≤ 1000000) (r : Rdr) (h : r.pos ≤ s.size) (g : Nat) (T : TypeId) (w : World) (hg : w.heap[g]? = some (.cells (rdrA s r) T (0, 0))) :
    Calls Tryd.prog 49 #[.pointer (some ⟨g, 0, none⟩)] w fun e w' => e = .returned (.int .u8 ((byteP s.data.toList r).1 : Nat)) ∧ w'.heap[g]? = some (.cells (rdrA s (byteP s.data.toList r).2) T (0, 0)) ∧ Below g w w' := by
  have hls : s.data.toList.length = s.size := by simp
  unfold byteP
  rw [hls]
  by_cases hb : r.bad = true ∨ s.size ≤ r.pos
  · rw [if_pos hb]
    exact rbyte_bad s hs r h hb g T w hg
  · rw [if_neg hb]
    obtain ⟨at_, bad⟩ := r
    simp only at h hb hg ⊢
    have h1 : bad = false := by cases bad <;> simp_all
    subst h1
    exact rbyte_ok s hs at_ (by omega) g T w hg
end Go.Proofs.YtpbkmfnfcdhhjaaDoor
