/- The closed fact byte80 of the statements of chapter 10; who may be packed. -/
import Derived.Test.YtpbkmfnfcdhhjaaGreatDoorPg4
import Derived.Test.YtpbkmfnfcdhhjaaGreatDoorMKnown
namespace Go.Proofs.YtpbkmfnfcdhhjaaGreatDoor
set_option linter.unusedVariables false
open Go Go.RowKit Go.ChangeShapes

def f80 : Lf := ⟨1, 1, 0, 0, []⟩
def c80 : Col := ⟨1, [0], [0], [⟨1, 1, ⟨#[]⟩⟩]⟩
theorem err80 : colErr f80 c80 false = .nil := by kernel_rfl
theorem fo80 : f80.Ok := ⟨by decide, by decide, by decide, by decide, by decide, by decide, by decide, by decide, by simp [f80, Fits]⟩
theorem co80 : c80.Ok := ⟨by decide, by decide, ⟨by decide, by simp [c80]⟩, ⟨by decide, by simp [c80]⟩, by decide, by
  intro x hx
  simp only [c80, List.mem_cons, List.not_mem_nil, or_false] at hx
  subst hx
  exact ⟨by decide, by decide, by decide, by decide, by decide⟩⟩
theorem page_head (f : Lf) (c : Col) : ∃ x y z u v l, pageB f c = 80 :: x :: y :: z :: u :: v :: l := by
  have h1 : 1 ≤ (seven (bodyB f c).length).length := by
    unfold seven
    split <;> simp
  have h4 : (little 4 (crc (bodyB f c))).length = 4 := little_len _ _
  have hp : pageB f c = 80 :: (seven (bodyB f c).length ++ (little 4 (crc (bodyB f c)) ++ bodyB f c)) := rfl
  have hl : 5 ≤ (seven (bodyB f c).length ++ (little 4 (crc (bodyB f c)) ++ bodyB f c)).length := by
    rw [List.length_append, List.length_append]; omega
  rw [hp]
  generalize seven (bodyB f c).length ++ (little 4 (crc (bodyB f c)) ++ bodyB f c) = L at *
  match L, hl with
  | x :: y :: z :: u :: v :: l, _ => exact ⟨x, y, z, u, v, l, rfl⟩
theorem capCol_lit {i a b d : Value} (ha : Capped a) (hb : Capped b) : CapCol (.agg #[i, a, b, d]) := by
  intro i' a' b' d' h
  simp only [Value.agg.injEq, Array.mk.injEq, List.cons.injEq, and_true] at h
  obtain ⟨-, rfl, rfl, -⟩ := h
  exact ⟨ha, hb⟩
theorem capped_lit {ad : Option Addr} {n cap : Nat} (h : n ≤ cap) : Capped (.slice ad n cap) := by
  intro ad' n' cap' e
  injection e with _ e1 e2
  omega

set_option maxRecDepth 100000 in
set_option maxHeartbeats 4000000 in
theorem byte80_any (w : World) (adr : Nat → Addr) (hE : ErrsAt w adr [2, 3, 4]) : Calls Tryz.prog 9 #[] w fun e w' => e = .returned (.bool true) ∧ Below w.heap.size w w' := by
  have HE := Lib.hid hE
  clear hE
  obtain ⟨x, y, z, u, v, l, hl⟩ := page_head f80 c80
  have Hl := Lib.hid hl
  clear hl
  go_enter Tryz.func9, Tryz.ntmps9
  go_upto_region 2 with fail
  obtain ⟨rF, hbw, hz⟩ := rows1 (w := w) (A := .cells #[.int .i64 1, .int .i64 1, .int .i64 0, .int .i64 0, .slice none 0 0] 39) (Below.refl _ _)
  have cF := rowc rF
  have Hbw := Lib.hid hbw
  clear rF hbw hz
  generalize w.alloc (.cells #[.int .i64 1, .int .i64 1, .int .i64 0, .int .i64 0, .slice none 0 0] 39) = w0 at *
  go_wp2_with fail
  have hW := (((Below.refl w0.heap.size w0).alloc (Nat.le_refl _) (.cells #[.int .i64 0] 3)).alloc (by simp) (.cells #[.int .i64 0] 3)).alloc (by simp; omega) (.cells #[.int .i64 1, .int .i64 1, .string ⟨#[]⟩] 51)
  obtain ⟨r1, r2, r3, _, _⟩ := rows3 (w := w0) (A := .cells #[.int .i64 0] 3) (B := .cells #[.int .i64 0] 3) (C := .cells #[.int .i64 1, .int .i64 1, .string ⟨#[]⟩] 51) (Below.refl _ _)
  have hW2 := Hbw.out.trans (hW.mono Hbw.out.size)
  have HC := Lib.hid (write_ok f80 c80 _ _ _ adr (HE.out.below hW2) ⟨.slice none 0 0, rfl, .inl ⟨rfl, none, 0, rfl⟩⟩ ⟨_, _, _, rfl, isInts_row [0] _ _ _ r1, isInts_row [0] _ _ _ r2, isVals_row [⟨1, 1, ⟨#[]⟩⟩] _ _ _ r3⟩ (capCol_lit (capped_lit (Nat.le_refl _)) (capped_lit (Nat.le_refl _))) fo80 co80 err80 (by simp [c80]) (by simp [c80]))
  have HW := Lib.hid hW2
  clear r1 r2 r3 hW hW2
  refine HC.out.mono ?_; rintro e w1 ⟨rfl, hb1⟩
  rw [Hl.out]
  have Hb1 := Lib.hid (HW.out.trans (hb1.mono HW.out.size))
  clear hb1
  go_wp2_with fail
  go_ret
  exact ⟨rfl, Hb1.out⟩

/-- levels that can be packed -/
def rightP (f : Lf) : Bool := decide (0 ≤ f.mr ∧ f.mr ≤ 100 ∧ 0 ≤ f.md ∧ f.md ≤ 100)
set_option maxRecDepth 100000 in
set_option maxHeartbeats 4000000 in
theorem rightP_any (f : Lf) (vf : Value) (w : World) (hf : IsLf w vf f) :
    Calls Tryz.prog 11 #[vf] w fun e w' => e = .returned (.bool (rightP f)) ∧ Below w.heap.size w w' := by
  obtain ⟨p, rfl, -⟩ := hf
  obtain ⟨id, k, mr, md, pp⟩ := f
  unfold lfA rightP
  simp only
  by_cases r0 : 0 ≤ mr
  · by_cases r1 : mr ≤ 100
    · by_cases d0 : 0 ≤ md
      · by_cases d1 : md ≤ 100
        · rw [decide_eq_true (show 0 ≤ mr ∧ mr ≤ 100 ∧ 0 ≤ md ∧ md ≤ 100 from ⟨r0, r1, d0, d1⟩)]
          go_enter Tryz.func11, Tryz.ntmps11
          go_wp2
          go_ret
          exact ⟨ret_of (by simp), (Below.refl _ _).alloc (Nat.le_refl _) _⟩
        · rw [decide_eq_false (show ¬ (0 ≤ mr ∧ mr ≤ 100 ∧ 0 ≤ md ∧ md ≤ 100) from fun h => d1 h.2.2.2)]
          go_enter Tryz.func11, Tryz.ntmps11
          go_wp2
          go_ret
          exact ⟨ret_of (by simp), (Below.refl _ _).alloc (Nat.le_refl _) _⟩
      · rw [decide_eq_false (show ¬ (0 ≤ mr ∧ mr ≤ 100 ∧ 0 ≤ md ∧ md ≤ 100) from fun h => d0 h.2.2.1)]
        go_enter Tryz.func11, Tryz.ntmps11
        go_wp2
        go_ret
        exact ⟨ret_of (by simp), (Below.refl _ _).alloc (Nat.le_refl _) _⟩
    · rw [decide_eq_false (show ¬ (0 ≤ mr ∧ mr ≤ 100 ∧ 0 ≤ md ∧ md ≤ 100) from fun h => r1 h.2.1)]
      go_enter Tryz.func11, Tryz.ntmps11
      go_wp2
      go_ret
      exact ⟨ret_of (by simp), (Below.refl _ _).alloc (Nat.le_refl _) _⟩
  · rw [decide_eq_false (show ¬ (0 ≤ mr ∧ mr ≤ 100 ∧ 0 ≤ md ∧ md ≤ 100) from fun h => r0 h.1)]
    go_enter Tryz.func11, Tryz.ntmps11
    go_wp2
    go_ret
    exact ⟨ret_of (by simp), (Below.refl _ _).alloc (Nat.le_refl _) _⟩
end Go.Proofs.YtpbkmfnfcdhhjaaGreatDoor
