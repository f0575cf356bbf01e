/- The walk of enc.ReadDelta. -/
import Derived.Test.YtddefnnimbjnaaaDoorRdP
import Derived.Test.YtddefnnimbjnaaaDoorGet64
import Derived.Test.YtddefnnimbjnaaaDoorMReads
import Derived.Test.YtddefnnimbjnaaaDoorMDelc
import Derived.Test.YtddefnnimbjnaaaDoorRead2
namespace Go.Proofs.YtddefnnimbjnaaaDoor
set_option linter.unusedVariables false
open Go Go.RowKit Go.ChangeShapes

/-- ReadDelta's two variables -/
def NextAt (br bn : Nat) (r : ByteArray) (now : Int) (w : World) : Prop :=
  w.heap[br]? = some (.cells #[.string r] 9 (0, 0)) ∧ w.heap[bn]? = some (.cells #[.int .i64 now] 2 (0, 0))
theorem NextAt.below {br bn : Nat} {r : ByteArray} {now : Int} {w w' : World} (h : NextAt br bn r now w) (hb : Below w.heap.size w w') : NextAt br bn r now w' :=
  ⟨(hb.block _ (Array.getElem?_eq_some_iff.1 h.1).1).trans h.1, (hb.block _ (Array.getElem?_eq_some_iff.1 h.2).1).trans h.2⟩
theorem NextAt.ne {br bn : Nat} {r : ByteArray} {now : Int} {w : World} (h : NextAt br bn r now w) : br ≠ bn := by
  rintro rfl
  have := h.1.symm.trans h.2
  simp at this
theorem NextAt.drew {br bn : Nat} {r : ByteArray} {now : Int} {w : World} (h : NextAt br bn r now w) : NextAt br bn r now w.drew := h
theorem NextAt.drewN {br bn : Nat} {r : ByteArray} {now : Int} {w : World} (h : NextAt br bn r now w) (q : Nat) : NextAt br bn r now (w.drewN q) := h.below (below_drewN (Below.refl w.heap.size w) q)
theorem NextAt.setR {br bn : Nat} {r : ByteArray} {now : Int} {w : World} (h : NextAt br bn r now w) (r' : ByteArray) : NextAt br bn r' now (w.setCell ⟨br, 0, none⟩ (.string r')) := by
  refine ⟨?_, ?_⟩
  · rw [heap_setCell_same _ _ _ _ _ _ h.1]; rfl
  · rw [heap_setCell_other _ _ _ _ (fun e => h.ne e.symm)]; exact h.2
theorem NextAt.setN {br bn : Nat} {r : ByteArray} {now : Int} {w : World} (h : NextAt br bn r now w) (now' : Int) : NextAt br bn r now' (w.setCell ⟨bn, 0, none⟩ (.int .i64 now')) := by
  refine ⟨?_, ?_⟩
  · rw [heap_setCell_other _ _ _ _ h.ne]; exact h.1
  · rw [heap_setCell_same _ _ _ _ _ _ h.2]; rfl
theorem NextAt.cr {br bn : Nat} {r : ByteArray} {now : Int} {w : World} (h : NextAt br bn r now w) : w.cell? ⟨br, 0, none⟩ = some (.string r) := by rw [Lib.cell_of_heap h.1]; rfl
theorem NextAt.cn {br bn : Nat} {r : ByteArray} {now : Int} {w : World} (h : NextAt br bn r now w) : w.cell? ⟨bn, 0, none⟩ = some (.int .i64 now) := by rw [Lib.cell_of_heap h.2]; rfl
theorem NextAt.fr {br bn : Nat} {r : ByteArray} {now : Int} {w : World} (h : NextAt br bn r now w) : w.frozen? ⟨br, 0, none⟩ = false := Lib.frozen_of_heap h.1 0
theorem NextAt.fn {br bn : Nat} {r : ByteArray} {now : Int} {w : World} (h : NextAt br bn r now w) : w.frozen? ⟨bn, 0, none⟩ = false := Lib.frozen_of_heap h.2 0
/-- rows of values stay where these two turn -/
def VKeep (w w' : World) : Prop := ∀ (B : Nat) (v : Value) (n : Nat) (xs : List Value), w.ownsRow B 33 3 v n xs → w'.ownsRow B 33 3 v n xs
theorem VKeep.trans {w w1 w2 : World} (h : VKeep w w1) (k : VKeep w1 w2) : VKeep w w2 := fun B v n xs hh => k B v n xs (h B v n xs hh)
theorem VKeep.below {w w' : World} (h : Below w.heap.size w w') : VKeep w w' := fun B v n xs hh => bown_below hh h
theorem NextAt.keepR {br bn : Nat} {r : ByteArray} {now : Int} {w : World} (h : NextAt br bn r now w) (r' : ByteArray) : VKeep w (w.setCell ⟨br, 0, none⟩ (.string r')) := fun B v n xs hh => bown_set hh h.1 (by decide) _
theorem NextAt.keepN {br bn : Nat} {r : ByteArray} {now : Int} {w : World} (h : NextAt br bn r now w) (y : Value) : VKeep w (w.setCell ⟨bn, 0, none⟩ y) := fun B v n xs hh => bown_set hh h.2 (by decide) _

set_option maxRecDepth 100000 in
set_option maxHeartbeats 1000000 in
theorem next_none (br bn : Nat) (r : ByteArray) (now : Int) (T : TypeId) (x : Value) (w : World) (h : NextAt br bn r now w) (hr : r.size ≤ maxLen) (hev : w.cell? ⟨1, 0, none⟩ = some (.iface T x)) (hN : readV r.data.toList = none) :
    Calls Tryd.prog 60 #[.pointer (some ⟨br, 0, none⟩), .pointer (some ⟨bn, 0, none⟩)] w fun e w' => e = .returned (.bool false) ∧ Below w.heap.size w w' := by
  have c1 := h.cr
  have HV := Lib.hid (readVarint_none r (.iface T x) w hr hev hN)
  clear h hev hN
  go_enter Tryd.func60, Tryd.ntmps60
  go_wp2_with fail
  refine HV.out.mono ?_; rintro e w1 ⟨rfl, hb1⟩
  go_wp2_with fail
  go_ret
  exact ⟨rfl, hb1⟩

set_option maxRecDepth 100000 in
set_option maxHeartbeats 1000000 in
theorem next_some (B br bn : Nat) (r : ByteArray) (now : Int) (T : TypeId) (x : Value) (w : World) (hBr : B ≤ br) (hBn : B ≤ bn) (hBw : B ≤ w.heap.size) (h : NextAt br bn r now w) (hr : r.size ≤ maxLen) (hev : w.cell? ⟨1, 0, none⟩ = some (.iface T x)) {m : Int} {k : Nat} (hN : readV r.data.toList = some (m, k)) :
    Calls Tryd.prog 60 #[.pointer (some ⟨br, 0, none⟩), .pointer (some ⟨bn, 0, none⟩)] w fun e w' => e = .returned (.bool true) ∧ NextAt br bn (r.extract k r.size) m w' ∧ VKeep w w' ∧ Below B w w' := by
  have c1 := h.cr
  have HV := Lib.hid (readVarint_some r (.iface T x) w hr hev hN)
  obtain ⟨_, _, _, hk⟩ := readV_in hN
  have hrl : r.data.toList.length = r.size := by simp
  rw [hrl] at hk
  have hkI : (k : Int) ≤ (r.size : Int) := by omega
  have H := Lib.hid h
  clear h hev hN hrl
  go_enter Tryd.func60, Tryd.ntmps60
  go_wp2_with fail
  refine HV.out.mono ?_; rintro e w1 ⟨rfl, hb1⟩
  have hN1 := H.out.below hb1
  have d1 := hN1.cr; have d2 := hN1.cn; have d3 := hN1.fr; have d4 := hN1.fn
  have hne := hN1.ne
  have hne' : bn ≠ br := fun e => hne e.symm
  have H1 := Lib.hid hN1; have Hb1 := Lib.hid hb1
  clear hN1 hb1 c1
  go_wp2_with fail
  go_region
  all_goals
    go_wp2_with fail
    go_ret
    refine ⟨rfl, (H1.out.setN m).setR _, ?_, ?_⟩
    · exact (VKeep.below Hb1.out).trans ((H1.out.keepN _).trans (((H1.out.setN m).keepR _).trans fun B v n xs hh => hh.drew))
    · exact (((Hb1.out.mono hBw).setCell (p := ⟨bn, 0, none⟩) hBn _).setCell (p := ⟨br, 0, none⟩) hBr _).drew

theorem NextAt.push {br bn : Nat} {r : ByteArray} {now : Int} {w w' : World} {o : Obj} {B n : Nat} {v : Value} {xs : List Value} (h : NextAt br bn r now w) (hg : (w.alloc o).grownBy w' v.ownBlock) (hown : w.ownsRow B 33 3 v n xs) : NextAt br bn r now w' := by
  have l1 := (Array.getElem?_eq_some_iff.1 h.1).1
  have l2 := (Array.getElem?_eq_some_iff.1 h.2).1
  have n1 := bown_ne hown h.1 (by decide)
  have n2 := bown_ne hown h.2 (by decide)
  refine ⟨?_, ?_⟩
  · rw [hg.block br (by simp; omega) (fun e => n1 e.symm), Lib.alloc_old w _ br l1]; exact h.1
  · rw [hg.block bn (by simp; omega) (fun e => n2 e.symm), Lib.alloc_old w _ bn l2]; exact h.2
theorem NextAt.fresh (s : ByteArray) (w : World) : NextAt w.heap.size (w.heap.size + 1) s 0 ((w.alloc (.cells #[.string s] 9)).alloc (.cells #[.int .i64 0] 2)) := by
  refine ⟨?_, ?_⟩
  · rw [Lib.alloc_old _ _ _ (by simp)]; exact heap_alloc_new w _
  · simpa using heap_alloc_new (w.alloc (.cells #[.string s] 9)) (.cells #[.int .i64 0] 2)
theorem bdata_get {s : ByteArray} {k : Nat} (h : k < s.size) : s.data.toList[k]? = some s[k] := by
  rw [List.getElem?_eq_getElem (by simpa using h)]; rfl
theorem readD_none {kind : Int} {s : List UInt8} {n : Nat} (h : dAll s n = none) : readD kind s n = none := by unfold readD; rw [h]
theorem readD_yes {kind : Int} {s : List UInt8} {n : Nat} {L : List Int} (h : dAll s n = some L) (hv : valsErr kind (L.map (numI kind)) = .nil) (hs : deltaB L = s) : readD kind s n = some (L.map (numI kind)) := by
  unfold readD
  rw [h]
  simp only []
  rw [if_pos]
  rw [Bool.and_eq_true, decide_eq_true_eq, List.all_eq_true]
  exact ⟨fun x hx => (okB_iff kind x).2 ((valsErr_nil hv).2.2.2 x hx), hs⟩
theorem readD_no {kind : Int} (hk : kind = 2 ∨ kind = 3) {s : List UInt8} {n : Nat} {L : List Int} (hn : n ≤ 20000) (h : dAll s n = some L) (hv : valsErr kind (L.map (numI kind)) ≠ .nil ∨ deltaB L ≠ s) : readD kind s n = none := by
  have hl := (dAll_inv s n L h).1
  unfold readD
  rw [h]
  simp only []
  rw [if_neg]
  intro hh
  rw [Bool.and_eq_true, decide_eq_true_eq, List.all_eq_true] at hh
  rcases hv with hv | hv
  · apply hv
    unfold valsErr
    rw [if_neg (by omega), if_neg (by rw [List.length_map]; omega), (badAt_none kind _ 0).2 fun x hx => (okB_iff kind x).1 (hh.1 x hx)]
  · exact hv hh.2
theorem getLastD_app (a b : List Int) (d : Int) : (a ++ b).getLastD d = b.getLastD (a.getLastD d) := by
  induction b generalizing a with
  | nil => simp
  | cons x b ih =>
    have e : a ++ x :: b = (a ++ [x]) ++ b := by simp
    rw [e, ih, getLastD_cons']
    congr 1
    simp
theorem num_cells' {kind z a : Int} (h : z = a) : (#[.int .i64 kind, .int .i64 z, .string ⟨#[]⟩] : Array Value) = valA (numI kind a) := by rw [h]; rfl
theorem adds_lastin (m p : Int) (hp : -9223372036854775808 ≤ p ∧ p < 9223372036854775808) (us : List Nat) : -9223372036854775808 ≤ (adds m p us).getLastD p ∧ (adds m p us).getLastD p < 9223372036854775808 := by
  have h := adds_in m us p
  rw [List.getLastD_eq_getLast?]
  cases hl : (adds m p us).getLast? with
  | none => exact hp
  | some y => exact h y (List.mem_of_getLast? hl)
theorem wrap64_u64 {a : Int} (h0 : -9223372036854775808 ≤ a) (h1 : a < 9223372036854775808) : wrap64 (IntKind.u64.wrap a) = a := by
  unfold wrap64; rw [IntKind.wrap_u64]; omega
theorem last_at (kind : Int) (L : List Int) (q : Nat) (h : L.length = q + 1) : (L.map (numI kind))[q]? = some (numI kind (L.getLastD 0)) := by
  rw [List.getElem?_map, List.getLastD_eq_getLast?, List.getLast?_eq_getElem?, h, Nat.add_sub_cancel, List.getElem?_eq_getElem (by omega)]; rfl
theorem u64_add (p m : Int) (g : Nat) : IntKind.u64.wrap (IntKind.u64.wrap p + IntKind.u64.wrap (IntKind.u64.wrap m + (g : Int))) = IntKind.u64.wrap (a64 p (m + (g : Int))) := by
  unfold a64; rw [IntKind.wrap_u64, IntKind.wrap_u64, IntKind.wrap_u64, IntKind.wrap_u64, IntKind.wrap_u64, IntKind.wrap_i64]; omega
end Go.Proofs.YtddefnnimbjnaaaDoor
