/- The walk of shred.Check: where what stands ahead of the entries is wrong. -/
import Derived.Test.YthilhooomlhfpaaDoorCol1
import Derived.BigQuiet
import Derived.Deep.DeepCutAuto
namespace Go.Proofs.YthilhooomlhfpaaDoor
set_option linter.unusedVariables false
open Go Go.RowKit Go.ChangeShapes

set_option maxRecDepth 100000 in
set_option maxHeartbeats 4000000 in
theorem ck_right (f : Lf) (c : Col) (free : Bool) (vf vc : Value) (w : World) (adr : Nat → Addr) (hE : ErrsAt w adr [3, 4]) (hf : IsLf w vf f) (hc : IsCol w vc c) (h : rightB f = false) :
    Calls Tryd.prog 47 #[vf, vc, .bool free] w fun e w' => e = .returned (.iface 232 (.pointer (some (adr 3)))) ∧ Below w.heap.size w w' := by
  obtain ⟨p, rfl, hp⟩ := hf
  obtain ⟨a, b, d, rfl, ha, hb, hd⟩ := hc
  have e3 := hE.cell 3 (by decide)
  unfold gErr at e3
  have hg := block_lt_of_cell e3
  simp only at hg
  clear hE hp ha hb hd
  unfold lfA colA
  go_enter Tryd.func47, Tryd.ntmps47
  go_wp2_with fail
  refine (right_no f p _ h).mono ?_; rintro e w1 ⟨rfl, hb1⟩
  obtain ⟨rA, rB, hbw, hz⟩ := rows2 hb1
  have e31 := (hbw.cell hg).trans e3
  clear hb1 h e3
  go_wp2_with fail
  go_loop [7, 8, 9] (fun v o i => v = .int .i64 0 ∧ o = .bool false ∧ i = .int .i64 0) (fun _ _ _ => 0)
  case atStart => exact ⟨rfl, rfl, rfl⟩
  case round =>
    obtain ⟨rfl, rfl, rfl⟩ := hrel
    go_wp2_with fail
    go_ret
    exact ⟨rfl, hbw⟩

set_option maxRecDepth 100000 in
set_option maxHeartbeats 4000000 in
theorem ck_id (f : Lf) (c : Col) (free : Bool) (vf vc : Value) (w : World) (adr : Nat → Addr) (hE : ErrsAt w adr [3, 4]) (hf : IsLf w vf f) (hc : IsCol w vc c) (h : rightB f = true) (h1 : ¬ f.id = c.id) :
    Calls Tryd.prog 47 #[vf, vc, .bool free] w fun e w' => e = .returned (.iface 232 (.pointer (some (adr 3)))) ∧ Below w.heap.size w w' := by
  obtain ⟨p, rfl, hp⟩ := hf
  obtain ⟨a, b, d, rfl, ha, hb, hd⟩ := hc
  have e3 := hE.cell 3 (by decide)
  unfold gErr at e3
  have hg := block_lt_of_cell e3
  simp only at hg
  have h1' : (f.id == c.id) = false := by simpa using h1
  clear hE hp ha hb hd h1
  unfold lfA colA
  go_enter Tryd.func47, Tryd.ntmps47
  go_wp2_with fail
  refine (right_yes f p _ h).mono ?_; rintro e w1 ⟨rfl, hb1⟩
  obtain ⟨rA, rB, hbw, hz⟩ := rows2 hb1
  have e31 := (hbw.cell hg).trans e3
  have cA := rowc rA; have cB := rowc rB
  clear hb1 h e3 rA rB
  go_wp2_with fail
  go_loop [7, 8, 9] (fun v o i => v = .int .i64 0 ∧ o = .bool false ∧ i = .int .i64 0) (fun _ _ _ => 0)
  case atStart => exact ⟨rfl, rfl, rfl⟩
  case round =>
    obtain ⟨rfl, rfl, rfl⟩ := hrel
    go_wp2_with fail
    go_ret
    exact ⟨rfl, hbw⟩

set_option maxRecDepth 100000 in
set_option maxHeartbeats 4000000 in
theorem ck_len (f : Lf) (c : Col) (free : Bool) (vf vc : Value) (w : World) (adr : Nat → Addr) (hE : ErrsAt w adr [3, 4]) (hf : IsLf w vf f) (hc : IsCol w vc c) (h : rightB f = true) (h1 : f.id = c.id) (h2 : ¬ c.rep.length = c.df.length) :
    Calls Tryd.prog 47 #[vf, vc, .bool free] w fun e w' => e = .returned (.iface 232 (.pointer (some (adr 3)))) ∧ Below w.heap.size w w' := by
  obtain ⟨p, rfl, hp⟩ := hf
  obtain ⟨a, b, d, rfl, ha, hb, hd⟩ := hc
  have e3 := hE.cell 3 (by decide)
  unfold gErr at e3
  have hg := block_lt_of_cell e3
  simp only at hg
  have h1' : (f.id == c.id) = true := by simpa using h1
  have h2' : ((c.rep.length : Int) == (c.df.length : Int)) = false := by simp; omega
  obtain ⟨a1, n1, rfl⟩ := ha.form
  obtain ⟨a2, n2, rfl⟩ := hb.form
  clear hE hp ha hb hd h1 h2
  unfold lfA colA
  go_enter Tryd.func47, Tryd.ntmps47
  go_wp2_with fail
  refine (right_yes f p _ h).mono ?_; rintro e w1 ⟨rfl, hb1⟩
  obtain ⟨rA, rB, hbw, hz⟩ := rows2 hb1
  have e31 := (hbw.cell hg).trans e3
  have cA := rowc rA; have cB := rowc rB
  clear hb1 h e3 rA rB
  go_wp2_with fail
  go_loop [7, 8, 9] (fun v o i => v = .int .i64 0 ∧ o = .bool false ∧ i = .int .i64 0) (fun _ _ _ => 0)
  case atStart => exact ⟨rfl, rfl, rfl⟩
  case round =>
    obtain ⟨rfl, rfl, rfl⟩ := hrel
    go_wp2_with fail
    go_ret
    exact ⟨rfl, hbw⟩

set_option maxRecDepth 100000 in
set_option maxHeartbeats 4000000 in
theorem ck_first (f : Lf) (c : Col) (free : Bool) (vf vc : Value) (w : World) (adr : Nat → Addr) (hE : ErrsAt w adr [3, 4]) (hf : IsLf w vf f) (hc : IsCol w vc c) (hfr : free = false) (h : rightB f = true) (h1 : f.id = c.id) (h2 : c.rep.length = c.df.length) (r : Int) (h3 : c.rep[0]? = some r) (h4 : ¬ r = 0) :
    Calls Tryd.prog 47 #[vf, vc, .bool free] w fun e w' => e = .returned (.iface 232 (.pointer (some (adr 3)))) ∧ Below w.heap.size w w' := by
  obtain ⟨p, rfl, hp⟩ := hf
  obtain ⟨a, b, d, rfl, ha, hb, hd⟩ := hc
  have e3 := hE.cell 3 (by decide)
  unfold gErr at e3
  have hg := block_lt_of_cell e3
  simp only at hg
  subst hfr
  have h1' : (f.id == c.id) = true := by simpa using h1
  have hl := (List.getElem?_eq_some_iff.1 h3).1
  obtain ⟨a1, k1, rfl⟩ := ha.form
  obtain ⟨b1, o1, rfl, _, hlt, hcs⟩ := ha.at hl
  replace hcs : w.cell? ⟨b1, o1, none⟩ = some (.int .i64 r) := by simpa using hcs 0 r h3
  obtain ⟨a2, n2, rfl⟩ := hb.form
  rw [← h2]
  generalize hn : c.rep.length = n at *
  have h3' : ((n : Int) == 0) = false := by simp; omega
  have h4' : (r == 0) = false := by simpa using h4
  clear hE hp ha hb hd h1 h2 h3 h4 hn
  unfold lfA colA
  go_enter Tryd.func47, Tryd.ntmps47
  go_wp2_with fail
  refine (right_yes f p _ h).mono ?_; rintro e w1 ⟨rfl, hb1⟩
  obtain ⟨rA, rB, hbw, hz⟩ := rows2 hb1
  have e31 := (hbw.cell hg).trans e3
  have cA := rowc rA; have cB := rowc rB
  have hcs1 := (hbw.cell (p := ⟨b1, o1, none⟩) hlt).trans hcs
  have hl' : (0 : Int) < (n : Int) := by omega
  clear hcs
  clear hb1 h e3 rA rB
  go_wp2_with fail
  go_loop [7, 8, 9] (fun v o i => v = .int .i64 0 ∧ o = .bool false ∧ i = .int .i64 0) (fun _ _ _ => 0)
  case atStart => exact ⟨rfl, rfl, rfl⟩
  case round =>
    obtain ⟨rfl, rfl, rfl⟩ := hrel
    go_wp2_with fail
    go_ret
    exact ⟨rfl, hbw⟩

end Go.Proofs.YthilhooomlhfpaaDoor
