/- The walks of data.Check and of the document's RecordError. -/
import Derived.Test.YthfljcpfcnddhaaGreatDoorDc3
import Derived.Test.YthfljcpfcnddhaaGreatDoorTv1
namespace Go.Proofs.YthfljcpfcnddhaaGreatDoor
set_option linter.unusedVariables false
set_option linter.unusedSimpArgs false
open Go Go.RowKit Go.ChangeShapes

theorem valid_okRep {n : Nd} (h : validE n = 0) : ∀ x ∈ nodes n, okRep x := by
  have hf : rootOk n = true ∧ (nodesL n.sub).all okShape = true := by
    unfold validE at h
    repeat' split at h
    all_goals first | exact ⟨by assumption, by assumption⟩ | omega
  intro x hx
  rw [nodes_eq] at hx
  rcases List.mem_cons.1 hx with rfl | hx
  · have h1 := hf.1
    unfold rootOk at h1
    simp only [Bool.and_eq_true, decide_eq_true_eq] at h1
    unfold okRep; omega
  · have h1 := List.all_eq_true.1 hf.2 x hx
    unfold okShape at h1
    simp only [Bool.and_eq_true, decide_eq_true_eq] at h1
    unfold okRep; omega
/-- what is wrong with a record of a schema -/
def recE (n : Nd) (d : Dt) : Nat := if validE n = 0 then datE n false d else validE n

set_option maxRecDepth 100000 in
set_option maxHeartbeats 8000000 in
theorem check_any (adr : Nat → Addr) (n : Nd) (d : Dt) (u ul uf : Value) (w : World) (hE : ErrsAt w adr [2, 3, 4, 5]) (hN : IsNds (· < w.heap.size) w u n.sub) (hO : ∀ x ∈ nodes n, x.Ok1)
    (hl : IsDts (· < w.heap.size) w ul d.l) (hf : IsDts (· < w.heap.size) w uf d.f) (hD : ∀ x ∈ dts d, x.Ok1) :
    Calls Tryz.prog 17 #[.agg (ndA n u), .agg (dtA d ul uf)] w (RightRet (recE n d) adr w) := by
  have HV := Lib.hid (fun (w1 : World) (h : Below w.heap.size w w1) => valid_any n u w1 adr ((hE.sub (by decide)).below h) ((hN.under h).mono fun b hb _ => Nat.lt_of_lt_of_le hb h.size) hO)
  have HRt := Lib.hid (fun (hv : validE n = 0) (w1 : World) (h : Below w.heap.size w w1) => right_any adr d n u ul uf false w1 ((hE.sub (by decide)).below h) ((hN.under h).mono fun b hb _ => Nat.lt_of_lt_of_le hb h.size) hO (valid_okRep hv)
    ((hl.under h).mono fun b hb _ => Nat.lt_of_lt_of_le hb h.size) ((hf.under h).mono fun b hb _ => Nat.lt_of_lt_of_le hb h.size) hD)
  obtain ⟨au, cu, rfl⟩ := hN.form
  obtain ⟨al, cl, rfl⟩ := hl.form
  obtain ⟨af, cf, rfl⟩ := hf.form
  unfold recE
  obtain ⟨V, hV⟩ : ∃ V, validE n = V := ⟨_, rfl⟩
  obtain ⟨D, hD⟩ : ∃ D, datE n false d = D := ⟨_, rfl⟩
  rw [hV] at HV HRt
  rw [hD] at HRt
  rw [hV, hD]
  obtain ⟨R, hR⟩ : ∃ R, (if V = 0 then D else V) = R := ⟨_, rfl⟩
  rw [hR]
  have HR := Lib.hid hR
  clear hR
  obtain ⟨ns, hns⟩ : ∃ ns, n.sub.length = ns := ⟨_, rfl⟩
  obtain ⟨nl, hnl⟩ : ∃ nl, d.l.length = nl := ⟨_, rfl⟩
  obtain ⟨nf, hnf⟩ : ∃ nf, d.f.length = nf := ⟨_, rfl⟩
  rw [hns] at HV HRt; rw [hnl, hnf] at HRt
  rw [hns, hnl, hnf]
  unfold ndA dtA at *
  clear hE hN hO hl hf hV hD hns hnl hnf
  go_enter Tryz.func17, Tryz.ntmps17
  go_upto_region 1 with fail
  have hb0 := rows2 (w := w) (A := .cells #[.int .i64 n.id, .string n.name, .int .i64 n.rep, .int .i64 n.kind, .slice au ns cu] 24) (B := .cells #[.bool d.no, .int .i64 d.v.k, .int .i64 d.v.n, .string d.v.s, .slice al nl cl, .slice af nf cf] 29) (Below.refl _ _)
  generalize ((w.alloc (.cells #[.int .i64 n.id, .string n.name, .int .i64 n.rep, .int .i64 n.kind, .slice au ns cu] 24)).alloc (.cells #[.bool d.no, .int .i64 d.v.k, .int .i64 d.v.n, .string d.v.s, .slice al nl cl, .slice af nf cf] 29)) = w1 at *
  obtain ⟨rA, rB, hbw, -⟩ := hb0
  have HW := Lib.hid hbw; have RA := Lib.hid rA; have RB := Lib.hid rB
  clear rA rB hbw
  have cA := rowc RA.out
  go_wp2_with fail
  refine (HV.out w1 HW.out).mono ?_; rintro e w2 ⟨rfl, hb2⟩
  replace RA := Lib.hid (row_keep hb2 RA.out); replace RB := Lib.hid (row_keep hb2 RB.out); replace HW := Lib.hid (HW.out.trans (hb2.mono HW.out.size))
  clear hb2 cA
  cases V with
  | succ q =>
    obtain rfl : q + 1 = R := by have := HR.out; rwa [if_neg (by omega)] at this
    unfold eV
    go_wp2_with fail
    go_ret
    exact ⟨rfl, HW.out⟩
  | zero =>
    obtain rfl : D = R := by have := HR.out; rwa [if_pos rfl] at this
    have HRt2 := Lib.hid (HRt.out rfl)
    clear HRt
    unfold eV
    have cA := rowc RA.out; have cB := rowc RB.out
    go_wp2_with fail
    refine (HRt2.out w2 HW.out).mono ?_; rintro e w3 ⟨rfl, hb3⟩
    replace HW := Lib.hid (HW.out.trans (hb3.mono HW.out.size))
    clear hb3 cA cB
    go_wp2_with fail
    go_ret
    exact ⟨rfl, HW.out⟩

set_option maxRecDepth 100000 in
set_option maxHeartbeats 8000000 in
theorem recordErr_any (n : Nd) (d : Dt) (u ul uf : Value) (w : World) (hN : IsNds (· < w.heap.size) w u n.sub) (hO : ∀ x ∈ nodes n, x.Ok1)
    (hl : IsDts (· < w.heap.size) w ul d.l) (hf : IsDts (· < w.heap.size) w uf d.f) (hD : ∀ x ∈ dts d, x.Ok1) :
    Calls Tryz.prog 12 #[.agg (ndA n u), .agg (dtA d ul uf)] w (ErrRet (recE n d) w) := by
  have HV := Lib.hid (fun (w1 : World) (h : Below w.heap.size w w1) => schema_any n u w1 ((hN.under h).mono fun b hb _ => Nat.lt_of_lt_of_le hb h.size) hO)
  have HRt := Lib.hid (fun (hv : validE n = 0) (w1 : World) (h : Below w.heap.size w w1) => datumErr_any d n u ul uf false w1 ((hN.under h).mono fun b hb _ => Nat.lt_of_lt_of_le hb h.size) hO (valid_okRep hv)
    ((hl.under h).mono fun b hb _ => Nat.lt_of_lt_of_le hb h.size) ((hf.under h).mono fun b hb _ => Nat.lt_of_lt_of_le hb h.size) hD)
  obtain ⟨au, cu, rfl⟩ := hN.form
  obtain ⟨al, cl, rfl⟩ := hl.form
  obtain ⟨af, cf, rfl⟩ := hf.form
  unfold recE
  obtain ⟨V, hV⟩ : ∃ V, validE n = V := ⟨_, rfl⟩
  obtain ⟨D, hD⟩ : ∃ D, datE n false d = D := ⟨_, rfl⟩
  rw [hV] at HV HRt
  rw [hD] at HRt
  rw [hV, hD]
  obtain ⟨R, hR⟩ : ∃ R, (if V = 0 then D else V) = R := ⟨_, rfl⟩
  rw [hR]
  have HR := Lib.hid hR
  clear hR
  obtain ⟨ns, hns⟩ : ∃ ns, n.sub.length = ns := ⟨_, rfl⟩
  obtain ⟨nl, hnl⟩ : ∃ nl, d.l.length = nl := ⟨_, rfl⟩
  obtain ⟨nf, hnf⟩ : ∃ nf, d.f.length = nf := ⟨_, rfl⟩
  rw [hns] at HV HRt; rw [hnl, hnf] at HRt
  rw [hns, hnl, hnf]
  unfold ndA dtA at *
  clear hN hO hl hf hV hD hns hnl hnf
  go_enter Tryz.func12, Tryz.ntmps12
  go_upto_region 1 with fail
  have hb0 := rows2 (w := w) (A := .cells #[.int .i64 n.id, .string n.name, .int .i64 n.rep, .int .i64 n.kind, .slice au ns cu] 24) (B := .cells #[.bool d.no, .int .i64 d.v.k, .int .i64 d.v.n, .string d.v.s, .slice al nl cl, .slice af nf cf] 29) (Below.refl _ _)
  generalize ((w.alloc (.cells #[.int .i64 n.id, .string n.name, .int .i64 n.rep, .int .i64 n.kind, .slice au ns cu] 24)).alloc (.cells #[.bool d.no, .int .i64 d.v.k, .int .i64 d.v.n, .string d.v.s, .slice al nl cl, .slice af nf cf] 29)) = w1 at *
  obtain ⟨rA, rB, hbw, -⟩ := hb0
  have HW := Lib.hid hbw; have RA := Lib.hid rA; have RB := Lib.hid rB
  clear rA rB hbw
  have cA := rowc RA.out
  go_wp2_with fail
  refine (HV.out w1 HW.out).mono ?_; rintro e w2 ⟨rfl, hb2⟩
  replace RA := Lib.hid (row_keep hb2 RA.out); replace RB := Lib.hid (row_keep hb2 RB.out); replace HW := Lib.hid (HW.out.trans (hb2.mono HW.out.size))
  clear hb2 cA
  by_cases h0 : V = 0
  case neg =>
    have d0 : ((V : Int) == 0) = false := by simpa using h0
    obtain rfl : V = R := by have := HR.out; rwa [if_neg h0] at this
    clear h0
    go_wp2_with fail
    go_ret
    exact ⟨rfl, HW.out⟩
  subst h0
  obtain rfl : D = R := by have := HR.out; rwa [if_pos rfl] at this
  have HRt2 := Lib.hid (HRt.out rfl)
  clear HRt
  have cA := rowc RA.out; have cB := rowc RB.out
  go_wp2_with fail
  refine (HRt2.out w2 HW.out).mono ?_; rintro e w3 ⟨rfl, hb3⟩
  replace HW := Lib.hid (HW.out.trans (hb3.mono HW.out.size))
  clear hb3 cA cB
  go_wp2_with fail
  go_ret
  exact ⟨rfl, HW.out⟩
end Go.Proofs.YthfljcpfcnddhaaGreatDoor
