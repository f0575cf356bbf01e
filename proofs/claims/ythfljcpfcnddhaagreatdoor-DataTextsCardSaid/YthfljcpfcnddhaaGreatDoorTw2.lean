/- The walks of schema.Valid's closures: shapes. -/
import Derived.Test.YthfljcpfcnddhaaGreatDoorTw1
namespace Go.Proofs.YthfljcpfcnddhaaGreatDoor
set_option linter.unusedVariables false
set_option linter.unusedSimpArgs false
open Go Go.RowKit Go.ChangeShapes

set_option maxRecDepth 100000 in
set_option maxHeartbeats 4000000 in
theorem leaf_any (n : Nd) (u : Value) (w : World) (b : Bool) (hb : decide (n.kind ≠ 0) = b) (h1 : u.oneCell' = true) (hu : ∃ ad k c, u = .slice ad k c) :
    Calls Tryz.prog 66 #[.agg #[.int .i64 n.id, .string n.name, .int .i64 n.rep, .int .i64 n.kind, u]] w fun e w' => e = .returned (.bool b) ∧ Below w.heap.size w w' := by
  obtain ⟨ad, k, c, rfl⟩ := hu
  by_cases h : n.kind = 0
  · have hd : (n.kind == 0) = true := by simpa using h
    have : b = false := by rw [← hb]; simp [h]
    subst this
    clear hb h1
    go_enter Tryz.func66, Tryz.ntmps66
    go_wp2_with fail
    go_ret
    exact ⟨ret_of (by simp [h]), (Below.refl _ _).alloc (Nat.le_refl _) _⟩
  · have hd : (n.kind == 0) = false := by simpa using h
    have : b = true := by rw [← hb]; simp [h]
    subst this
    clear hb h1
    go_enter Tryz.func66, Tryz.ntmps66
    go_wp2_with fail
    go_ret
    exact ⟨ret_of (by simp [h]), (Below.refl _ _).alloc (Nat.le_refl _) _⟩

/-- the variable leaf -/
def LeafAt (b : Nat) (_ : Nat) (_ : Unit) (w : World) : Prop := w.heap[b]? = some (.cells #[.func (.func 66) #[] #[]] 31 (0, 0))
def shapeF (n : Nd) (s : Unit) : Bool × Unit := (okShape n, s)

set_option maxRecDepth 100000 in
set_option maxHeartbeats 8000000 in
theorem valid3_any (B : Nat) (P : Nat → Prop) (b : Nat) (hb : B ≤ b) : OkAt B P (fun _ => False) (LeafAt b) shapeF 68 #[.pointer (some ⟨b, 0, none⟩)] := by
  intro m n u s w hB hI hN hO
  obtain ⟨ad, cp, rfl⟩ := hN.form
  obtain ⟨len, hlen⟩ : ∃ len, n.sub.length = len := ⟨_, rfl⟩
  have hE : n.sub.isEmpty = decide (len = 0) := by rw [← hlen]; cases n.sub <;> simp
  have HC := Lib.hid (fun (w1 : World) (b : Bool) (hb : decide (n.kind ≠ 0) = b) => leaf_any n (.slice ad len cp) w1 b hb rfl ⟨_, _, _, rfl⟩)
  rw [hlen]
  unfold LeafAt at hI
  have HI0 := Lib.hid hI; have HE := Lib.hid hE
  clear hI hO hN hE hlen
  unfold ndA at *
  go_enter Tryz.func68, Tryz.ntmps68
  go_upto_region 1 with fail
  have hw : Below w.heap.size w (w.alloc (.cells #[.int .i64 n.id, .string n.name, .int .i64 n.rep, .int .i64 n.kind, .slice ad len cp] 24)) := (Below.refl _ _).alloc (Nat.le_refl _) _
  have HK := Lib.hid (Kp.of_below (B := B) (M := fun _ => False) hw hB)
  have hI2 := row_keep hw HI0.out
  have hrw := heap_alloc_new w (.cells #[.int .i64 n.id, .string n.name, .int .i64 n.rep, .int .i64 n.kind, .slice ad len cp] 24)
  clear HI0 hw
  generalize (w.alloc (.cells #[.int .i64 n.id, .string n.name, .int .i64 n.rep, .int .i64 n.kind, .slice ad len cp] 24)) = w1 at *
  have HI := Lib.hid hI2; have HR := Lib.hid hrw
  have c1 := rowc hI2; have c2 := rowc hrw
  clear hI2 hrw
  by_cases r1 : 1 ≤ n.rep
  case neg =>
    have d1 : decide (1 ≤ n.rep) = false := decide_eq_false r1
    have HO := Lib.hid (show okShape n = false by unfold okShape; rw [d1]; simp); clear r1
    clear HC HE
    go_quiet (fail)
    go_wp2_with fail
    go_ret
    exact ⟨ret_of (by show _ = Value.bool (okShape n); rw [HO.out]; rfl), row_keep (below_drewN (Below.refl _ _) _) HI.out, HK.out.trans (Kp.of_below (below_drewN (Below.refl _ _) _) (Nat.le_trans hB HK.out.below.size))⟩
  have d1 : decide (1 ≤ n.rep) = true := decide_eq_true r1
  by_cases r2 : n.rep ≤ 3
  case neg =>
    have d2 : decide (n.rep ≤ 3) = false := decide_eq_false r2
    have HO := Lib.hid (show okShape n = false by unfold okShape; rw [d1, d2]; simp); clear r2
    clear HC HE
    go_quiet (fail)
    go_wp2_with fail
    go_ret
    exact ⟨ret_of (by show _ = Value.bool (okShape n); rw [HO.out]; rfl), row_keep (below_drewN (Below.refl _ _) _) HI.out, HK.out.trans (Kp.of_below (below_drewN (Below.refl _ _) _) (Nat.le_trans hB HK.out.below.size))⟩
  have d2 : decide (n.rep ≤ 3) = true := decide_eq_true r2
  by_cases r3 : 0 ≤ n.kind
  case neg =>
    have d3 : decide (0 ≤ n.kind) = false := decide_eq_false r3
    have HO := Lib.hid (show okShape n = false by unfold okShape; rw [d1, d2, d3]; simp); clear r3
    clear HC HE
    go_quiet (fail)
    go_wp2_with fail
    go_ret
    exact ⟨ret_of (by show _ = Value.bool (okShape n); rw [HO.out]; rfl), row_keep (below_drewN (Below.refl _ _) _) HI.out, HK.out.trans (Kp.of_below (below_drewN (Below.refl _ _) _) (Nat.le_trans hB HK.out.below.size))⟩
  have d3 : decide (0 ≤ n.kind) = true := decide_eq_true r3
  by_cases r4 : n.kind ≤ 5
  case neg =>
    have d4 : decide (n.kind ≤ 5) = false := decide_eq_false r4
    have HO := Lib.hid (show okShape n = false by unfold okShape; rw [d1, d2, d3, d4]; simp); clear r4
    clear HC HE
    go_quiet (fail)
    go_wp2_with fail
    go_ret
    exact ⟨ret_of (by show _ = Value.bool (okShape n); rw [HO.out]; rfl), row_keep (below_drewN (Below.refl _ _) _) HI.out, HK.out.trans (Kp.of_below (below_drewN (Below.refl _ _) _) (Nat.le_trans hB HK.out.below.size))⟩
  have d4 : decide (n.kind ≤ 5) = true := decide_eq_true r4
  have HB := Lib.hid (Below.refl w1.heap.size w1)
  have HO := Lib.hid (show okShape n = (decide (n.kind ≠ 0) == decide (len = 0)) by unfold okShape; rw [d1, d2, d3, d4, HE.out]; rfl)
  clear HE r1 r2 r3 r4
  obtain ⟨kb, hkb⟩ : ∃ kb, decide (n.kind ≠ 0) = kb := ⟨_, rfl⟩
  rw [hkb] at HO
  have HKB := Lib.hid hkb
  clear hkb
  have HCC := Lib.hid (fun w1 => HC.out w1 kb HKB.out)
  clear HC
  obtain ⟨R, hR⟩ : ∃ R, okShape n = R := ⟨_, rfl⟩
  have HRr := Lib.hid (show (kb == decide (len = 0)) = R by rw [← hR, HO.out])
  have HRr2 := Lib.hid hR
  clear HO hR HKB
  by_cases hl : len = 0
  · subst hl
    have HL := Lib.hid (rfl : (0 : Nat) = 0)
    cases kb
    all_goals
      go_region_held3 (fun w' => (∀ j, w'.cell? ⟨b, j, none⟩ = (#[.func (.func 66) #[] #[]] : Array Value)[j]?) ∧ (∀ j, w'.cell? ⟨w.heap.size, j, none⟩ = (#[.int .i64 n.id, .string n.name, .int .i64 n.rep, .int .i64 n.kind, .slice ad 0 cp] : Array Value)[j]?))
        (first | (with_reducible exact ⟨rowc HI.out, rowc HR.out⟩) | (with_reducible exact ⟨rowc_drew HI.out, rowc_drew HR.out⟩))
        (first | (go_at_call 66; (with_reducible refine (HCC.out _).mono ?_); rintro e w2 ⟨rfl, hb2⟩; (first | (with_reducible have hbs := drew_first hb2) | (have hbs := hb2)); replace HI := Lib.hid (row_keep hbs HI.out); replace HR := Lib.hid (row_keep hbs HR.out); replace HB := Lib.hid (HB.out.trans (hbs.mono HB.out.size)); clear hb2 hbs))
      go_wp2_with fail
      go_ret
      exact ⟨ret_of (by show _ = Value.bool (okShape n); rw [HRr2.out, ← HRr.out]; first | rfl | (simp [HL.out])), HI.out, HK.out.trans (Kp.of_below HB.out (Nat.le_trans hB HK.out.below.size))⟩
  · have HL := Lib.hid hl
    cases kb
    all_goals
      go_region_held3 (fun w' => (∀ j, w'.cell? ⟨b, j, none⟩ = (#[.func (.func 66) #[] #[]] : Array Value)[j]?) ∧ (∀ j, w'.cell? ⟨w.heap.size, j, none⟩ = (#[.int .i64 n.id, .string n.name, .int .i64 n.rep, .int .i64 n.kind, .slice ad len cp] : Array Value)[j]?))
        (first | (with_reducible exact ⟨rowc HI.out, rowc HR.out⟩) | (with_reducible exact ⟨rowc_drew HI.out, rowc_drew HR.out⟩))
        (first | (go_at_call 66; (with_reducible refine (HCC.out _).mono ?_); rintro e w2 ⟨rfl, hb2⟩; (first | (with_reducible have hbs := drew_first hb2) | (have hbs := hb2)); replace HI := Lib.hid (row_keep hbs HI.out); replace HR := Lib.hid (row_keep hbs HR.out); replace HB := Lib.hid (HB.out.trans (hbs.mono HB.out.size)); clear hb2 hbs))
      go_wp2_with fail
      go_ret
      exact ⟨ret_of (by show _ = Value.bool (okShape n); rw [HRr2.out, ← HRr.out]; first | rfl | (simp [HL.out])), HI.out, HK.out.trans (Kp.of_below HB.out (Nat.le_trans hB HK.out.below.size))⟩
end Go.Proofs.YthfljcpfcnddhaaGreatDoor
