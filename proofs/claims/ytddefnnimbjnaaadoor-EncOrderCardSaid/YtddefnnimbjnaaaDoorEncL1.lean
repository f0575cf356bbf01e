/- The walks of the statements EncLess and EncOrder. -/
import Derived.Test.YtddefnnimbjnaaaDoorEncW3
import Derived.Test.YtddefnnimbjnaaaDoorValArgs
import Derived.Test.YtddefnnimbjnaaaDoorEnv
import Derived.Deep.RegionHeld3
namespace Go.Proofs.YtddefnnimbjnaaaDoor
set_option linter.unusedVariables false
open Go Go.RowKit Go.ChangeShapes

/-- the cells of two values -/
def Six (p q : Nat) (a b : Val) (w' : World) : Prop :=
  w'.cell? ⟨p, 0, none⟩ = some (.int .i64 a.k) ∧ w'.cell? ⟨p, 1, none⟩ = some (.int .i64 a.n) ∧ w'.cell? ⟨p, 2, none⟩ = some (.string a.s) ∧
  w'.cell? ⟨q, 0, none⟩ = some (.int .i64 b.k) ∧ w'.cell? ⟨q, 1, none⟩ = some (.int .i64 b.n) ∧ w'.cell? ⟨q, 2, none⟩ = some (.string b.s)
theorem Six.below {p q : Nat} {a b : Val} {w w' : World} (h : Six p q a b w) (hb : Below w.heap.size w w') : Six p q a b w' := by
  obtain ⟨h1, h2, h3, h4, h5, h6⟩ := h
  have t : ∀ (b o : Nat) (x : Value), w.cell? ⟨b, o, none⟩ = some x → w'.cell? ⟨b, o, none⟩ = some x := fun b o x h => (hb.cell (p := ⟨b, o, none⟩) (block_lt_of_cell h)).trans h
  exact ⟨t _ _ _ h1, t _ _ _ h2, t _ _ _ h3, t _ _ _ h4, t _ _ _ h5, t _ _ _ h6⟩
theorem Six.fresh (a b : Val) (w : World) (T : TypeId) : Six w.heap.size (w.heap.size + 1) a b ((w.alloc (.cells (valA a) T)).alloc (.cells (valA b) T)) := by
  have e1 : ∀ o, ((w.alloc (.cells (valA a) T)).alloc (.cells (valA b) T)).cell? ⟨w.heap.size, o, none⟩ = (w.alloc (.cells (valA a) T)).cell? ⟨w.heap.size, o, none⟩ := fun o =>
    (((Below.refl _ _).alloc (Nat.le_refl _) _ : Below (w.alloc (.cells (valA a) T)).heap.size _ _).cell (p := ⟨w.heap.size, o, none⟩) (by simp))
  have e2 : (w.alloc (.cells (valA a) T)).heap.size = w.heap.size + 1 := by simp
  refine ⟨?_, ?_, ?_, ?_, ?_, ?_⟩
  · rw [e1, World.cell?_alloc_at _ _ _ _ rfl]; rfl
  · rw [e1, World.cell?_alloc_at _ _ _ _ rfl]; rfl
  · rw [e1, World.cell?_alloc_at _ _ _ _ rfl]; rfl
  · rw [← e2, World.cell?_alloc_at _ _ _ _ rfl]; rfl
  · rw [← e2, World.cell?_alloc_at _ _ _ _ rfl]; rfl
  · rw [← e2, World.cell?_alloc_at _ _ _ _ rfl]; rfl

set_option maxRecDepth 100000 in
set_option maxHeartbeats 2000000 in
theorem encLess_law (a : Val) (ha : a.Ok) (b : Val) (hb : b.Ok) (w : World) (hL : laidMetH Tryd.prog Rows.encLessRow.laid w) :
    Calls Tryd.prog 4 #[.agg (valA a), .agg (valA b)] w fun e w' => e = .returned (.bool true) ∧ Below w.heap.size w w' := by
  have H1 := Lib.hid (fun w1 => show Calls Tryd.prog 20 #[.agg #[.int .i64 a.k, .int .i64 a.n, .string a.s], .agg #[.int .i64 b.k, .int .i64 b.n, .string b.s]] w1 fun e w' => e = .returned (.bool (a.less b)) ∧ Below w1.heap.size w1 w' from less_any a b ha hb w1)
  have H2 := Lib.hid (fun w1 => show Calls Tryd.prog 21 #[.agg #[.int .i64 a.k, .int .i64 a.n, .string a.s], .agg #[.int .i64 b.k, .int .i64 b.n, .string b.s]] w1 fun e w' => e = .returned (.bool (a.less b)) ∧ Below w1.heap.size w1 w' from lessOf_any a b ha hb w1)
  have hbw : Below w.heap.size w ((w.alloc (.cells (valA a) 33)).alloc (.cells (valA b) 33)) := ((Below.refl _ _).alloc (Nat.le_refl _) _).alloc (by simp) _
  have h6 := Six.fresh a b w 33
  have HH : Hid (((w.alloc (.cells (valA a) 33)).alloc (.cells (valA b) 33)) = ((w.alloc (.cells #[.int .i64 a.k, .int .i64 a.n, .string a.s] 33)).alloc (.cells #[.int .i64 b.k, .int .i64 b.n, .string b.s] 33))) := Lib.hid rfl
  rw [HH.out] at hbw h6
  have Hbw := Lib.hid hbw; have H6 := Lib.hid h6
  clear hL hbw h6 HH
  unfold valA
  go_enter Tryd.func4, Tryd.ntmps4
  go_wp2_with fail
  refine (four_any _).mono ?_; rintro e w1 ⟨rfl, hb1⟩
  have h6 := H6.out.below hb1
  have hbw1 : Below w.heap.size w w1 := Hbw.out.trans (hb1.mono Hbw.out.size)
  have H61 := Lib.hid h6
  have hdr : w1.heap.size = w1.drew.heap.size := rfl
  obtain ⟨a0, a1, a2, b0, b1, b2⟩ := h6
  clear hb1
  go_wp2_with fail
  go_region_held3 (fun w' => w'.cell? ⟨w.heap.size, 0, none⟩ = some (.int .i64 a.k) ∧ w'.cell? ⟨w.heap.size, 1, none⟩ = some (.int .i64 a.n) ∧ w'.cell? ⟨w.heap.size, 2, none⟩ = some (.string a.s) ∧ w'.cell? ⟨w.heap.size + 1, 0, none⟩ = some (.int .i64 b.k) ∧ w'.cell? ⟨w.heap.size + 1, 1, none⟩ = some (.int .i64 b.n) ∧ w'.cell? ⟨w.heap.size + 1, 2, none⟩ = some (.string b.s))
    (first | exact H61.out | exact H62.out | exact H63.out)
    (first
    | (go_at_call 20; (with_reducible refine (H1.out _).mono ?_); rintro e w2 ⟨rfl, hb2⟩
       have hb2 : Below w1.heap.size w1 w2 := (Below.refl w1.heap.size w1).drew.trans (hb2.mono (Nat.le_of_eq hdr))
       have H62 := Lib.hid (H61.out.below hb2))
    | (go_at_call 21; (with_reducible refine (H2.out _).mono ?_); rintro e w3 ⟨rfl, hb3⟩
       have hb3 := below_trans hb2 hb3
       have H63 := Lib.hid (H61.out.below hb3)))
  go_wp2_with fail
  go_ret
  exact ⟨ret_of (by simp), hbw1.trans (hb3.mono hbw1.size)⟩
end Go.Proofs.YtddefnnimbjnaaaDoor
