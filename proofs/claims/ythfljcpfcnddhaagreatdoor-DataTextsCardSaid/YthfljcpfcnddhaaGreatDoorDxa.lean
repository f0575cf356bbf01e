/- The statement DataTexts. Written by gen_dx10.py. -/
import Derived.Test.YthfljcpfcnddhaaGreatDoorWk8
import Derived.Test.YthfljcpfcnddhaaGreatDoorDx9
import Derived.LaidSub
namespace Go.Proofs.YthfljcpfcnddhaaGreatDoor
set_option linter.unusedVariables false
set_option linter.unusedSimpArgs false
open Go Go.RowKit Go.ChangeShapes

theorem sub_parent : (∀ n, ∀ y ∈ nodesL (Nd.sub n), ∃ x ∈ nodes n, y ∈ x.sub) ∧ ∀ l, ∀ y ∈ nodesL l, y ∈ l ∨ ∃ x ∈ nodesL l, y ∈ x.sub := by
  refine tree2 (fun n h y hy => ?_) (fun y hy => ?_) (fun x r h1 h2 y hy => ?_)
  · rcases h y hy with h | ⟨x, hx, hxy⟩
    · exact ⟨n, by rw [nodes_eq]; exact List.mem_cons_self .., h⟩
    · exact ⟨x, by rw [nodes_eq]; exact List.mem_cons_of_mem _ hx, hxy⟩
  · simp [nodesL] at hy
  · simp only [nodesL, List.mem_append] at hy ⊢
    rcases hy with hy | hy
    · rw [nodes_eq] at hy
      rcases List.mem_cons.1 hy with rfl | hy
      · exact .inl (List.mem_cons_self ..)
      · obtain ⟨z, hz, hyz⟩ := h1 y hy
        exact .inr ⟨z, .inl hz, hyz⟩
    · rcases h2 y hy with h | ⟨z, hz, hyz⟩
      · exact .inl (List.mem_cons_of_mem _ h)
      · exact .inr ⟨z, .inr hz, hyz⟩
theorem valid_nm {n : Nd} (h : validE n = 0) : ∀ y ∈ nodesL n.sub, y.name.size ≤ 12 := by
  intro y hy
  obtain ⟨x, hx, hyx⟩ := sub_parent.1 n y hy
  have hf : (nodes n).all (fun x => namesR [] x.sub) = true := by
    unfold validE at h
    repeat' split at h
    all_goals first | assumption | omega
  have h1 := ((namesR_iff x.sub []).1 (List.all_eq_true.1 hf x hx)).1 y hyx
  unfold isNm at h1
  simp only [Bool.and_eq_true, decide_eq_true_eq] at h1
  exact h1.1.2
theorem rec_cap {n : Nd} {d : Dt} (h : recE n d = 0) (hD : ∀ x ∈ dts d, x.Ok1) : (dtxt valT n false d).length ≤ 100000000000000 :=
  dtxt_cap2 (recE_zero h).2 (valid_nm (recE_zero h).1) hD (valid_small (recE_zero h).1).1 (valid_small (recE_zero h).1).2
theorem recE_le (n : Nd) (d : Dt) : recE n d ≤ 8 := by
  have h1 := datE_le d n false
  have h2 := valid_le8 n
  unfold recE
  split <;> omega

theorem coded_eV (adr : Nat → Addr) (E : Nat) (h8 : E ≤ 8) (w : World) (hE : ErrEnv w adr) : Calls Tryz.prog 16 #[eV adr E, .int .i64 (E : Nat)] w fun r w' => r = .returned (.bool true) ∧ Below w.heap.size w w' := by
  cases E with
  | zero =>
    have h := coded_any (w := w) (adr := adr) (e := .nil) (v := .nilIface) ((0 : Nat) : Int) hE rfl
    unfold eV
    exact h.mono fun r w' h3 => ⟨h3.1.trans (ret_of (by simp [GErr.code, GErr.at'])), h3.2⟩
  | succ k =>
    have h := coded_any (w := w) (adr := adr) (e := .sent (k + 1)) (v := .iface 231 (.pointer (some (adr (k + 1))))) ((k + 1 : Nat) : Int) hE ⟨by omega, by omega, rfl⟩
    unfold eV
    exact h.mono fun r w' h3 => ⟨h3.1.trans (ret_of (by simp [GErr.code, GErr.at'])), h3.2⟩

set_option maxRecDepth 100000 in
set_option maxHeartbeats 32000000 in
theorem texts_main (n : Nd) (d : Dt) (u ul uf : Value) (w : World) (adr : Nat → Addr) (hE : ErrEnv w adr) (hT : Tabs w) (hN : IsNds (· < w.heap.size) w u n.sub) (hO : ∀ x ∈ nodes n, x.Ok1)
    (hl : IsDts (· < w.heap.size) w ul d.l) (hf : IsDts (· < w.heap.size) w uf d.f) (hD : ∀ x ∈ dts d, x.Ok1)
    (hbit : ∀ w1, Below w.heap.size w w1 → Calls Tryz.prog 9 #[] w1 fun e w' => e = .returned (.bool true) ∧ Below w1.heap.size w1 w') :
    Calls Tryz.prog 3 #[.agg (ndA n u), .agg (dtA d ul uf)] w fun e w' => e = .returned (.bool true) ∧ Below w.heap.size w w' := by
  have HN := Lib.hid (fun (w1 : World) (h : Below w.heap.size w w1) => (hN.under h).mono (Q := (· < w1.heap.size)) fun b hb _ => Nat.lt_of_lt_of_le hb h.size)
  have HLl := Lib.hid (fun (w1 : World) (h : Below w.heap.size w w1) => (hl.under h).mono (Q := (· < w1.heap.size)) fun b hb _ => Nat.lt_of_lt_of_le hb h.size)
  have HLf := Lib.hid (fun (w1 : World) (h : Below w.heap.size w w1) => (hf.under h).mono (Q := (· < w1.heap.size)) fun b hb _ => Nat.lt_of_lt_of_le hb h.size)
  have HBT := Lib.hid hbit
  have HTM := Lib.hid (fun (w1 : World) (h : Below w.heap.size w w1) => tame_any n u w1 (HN.out w1 h) hO)
  have HWG := Lib.hid (fun (w1 : World) (h : Below w.heap.size w w1) => weight_any d ul uf w1 (HLl.out w1 h) (HLf.out w1 h) hD)
  have HRE := Lib.hid (fun (w1 : World) (h : Below w.heap.size w w1) => recordErr_any n d u ul uf w1 (HN.out w1 h) hO (HLl.out w1 h) (HLf.out w1 h) hD)
  have HON := Lib.hid (fun (w1 : World) (h : Below w.heap.size w w1) => ownNode_any n u w1 (HN.out w1 h) hO)
  have HOD := Lib.hid (fun (w1 : World) (h : Below w.heap.size w w1) => ownDatum_any d ul uf w1 (HLl.out w1 h) (HLf.out w1 h) hD)
  have HTP := Lib.hid (fun (w1 : World) (h : Below w.heap.size w w1) (x y z : Value) (hx : IsNds (· < w1.heap.size) w1 x n.sub) (hy : IsDts (· < w1.heap.size) w1 y d.l) (hz : IsDts (· < w1.heap.size) w1 z d.f) =>
    textP_anyP Tabs (fun _ _ => Tabs.on) valT (fun _ => True) (fun k x w2 _ ho hk hp => value_any x (by rw [((okB_iff _ _).1 ho).k]; exact ho) hk.n0 (by have := hk.n1; omega) w2 hp) adr n d x y z w1 ((hE.below h).errs.sub (by decide)) hx hO (fun _ _ _ => trivial) hy hz hD (fun h0 => rec_cap h0 hD) (hT.on h))
  have HCK := Lib.hid (fun (w1 : World) (h : Below w.heap.size w w1) (x y z : Value) (hx : IsNds (· < w1.heap.size) w1 x n.sub) (hy : IsDts (· < w1.heap.size) w1 y d.l) (hz : IsDts (· < w1.heap.size) w1 z d.f) =>
    check_any adr n d x y z w1 ((hE.below h).errs.sub (by decide)) hx hO hy hz hD)
  have HDT := Lib.hid (fun (h0 : recE n d = 0) (w1 : World) (h : Below w.heap.size w w1) => datumText_any valT (fun _ => True) (fun k x w2 _ ho hk => valueText_any x (by rw [((okB_iff _ _).1 ho).k]; exact ho) hk.n0 (by have := hk.n1; omega) w2) d n u ul uf false w1 (HN.out w1 h) hO (valid_okRep (recE_zero h0).1) (fun _ _ _ => trivial) (HLl.out w1 h) (HLf.out w1 h) hD (recE_zero h0).2 (fun x hx => Nat.le_trans (valid_sub (recE_zero h0).1 x hx) (by decide)) (rec_cap h0 hD))
  have HCD := Lib.hid (fun (w1 : World) (h : Below w.heap.size w w1) => coded_eV adr (recE n d) (recE_le n d) w1 (hE.below h))
  obtain ⟨au, cu, rfl⟩ := hN.form
  obtain ⟨al, cl, rfl⟩ := hl.form
  obtain ⟨af, cf, rfl⟩ := hf.form
  obtain ⟨len, hnl0⟩ : ∃ len, n.sub.length = len := ⟨_, rfl⟩
  obtain ⟨nl, hnl⟩ : ∃ nl, d.l.length = nl := ⟨_, rfl⟩
  obtain ⟨nf, hnf⟩ : ∃ nf, d.f.length = nf := ⟨_, rfl⟩
  unfold OwnRet at HON
  unfold OwnDRet at HOD
  unfold TextPRet strV at HTP
  unfold RightRet at HCK
  unfold ErrRet at HRE
  unfold TextRet strV at HDT
  rw [hnl0] at HTM HRE HON HDT; rw [hnl, hnf] at HWG HRE HOD HDT
  rw [hnl0, hnl, hnf]
  obtain ⟨D, hD1⟩ : ∃ D, dtxt valT n false d = D := ⟨_, rfl⟩
  obtain ⟨E, hE1⟩ : ∃ E, recE n d = E := ⟨_, rfl⟩
  rw [hD1] at HTP HDT
  rw [hE1] at HTP HDT HRE HCK HCD
  obtain ⟨Rt, hRt⟩ : ∃ Rt, (if E = 0 then D else []) = Rt := ⟨_, rfl⟩
  rw [hRt] at HTP
  have HRt := Lib.hid hRt
  clear hE hT hN hO hl hf hD hbit hnl0 hnl hnf hE1 hD1 hRt
  unfold ndA dtA at *
  go_enter Tryz.func3, Tryz.ntmps3
  go_upto_region 1 with fail
  obtain ⟨rA, rB, hbw, hz⟩ := rows2 (w := w) (A := .cells #[.int .i64 n.id, .string n.name, .int .i64 n.rep, .int .i64 n.kind, .slice au len cu] 24) (B := .cells #[.bool d.no, .int .i64 d.v.k, .int .i64 d.v.n, .string d.v.s, .slice al nl cl, .slice af nf cf] 29) (Below.refl _ _)
  generalize ((w.alloc (.cells #[.int .i64 n.id, .string n.name, .int .i64 n.rep, .int .i64 n.kind, .slice au len cu] 24)).alloc (.cells #[.bool d.no, .int .i64 d.v.k, .int .i64 d.v.n, .string d.v.s, .slice al nl cl, .slice af nf cf] 29)) = w1 at *
  have HW := Lib.hid hbw; have RA := Lib.hid rA; have RB := Lib.hid rB
  clear rA rB hbw hz
  go_wp2_with fail
  refine (HBT.out w1 HW.out).mono ?_; rintro e w2 ⟨rfl, hb2⟩
  replace RA := Lib.hid (row_keep hb2 RA.out); replace RB := Lib.hid (row_keep hb2 RB.out); replace HW := Lib.hid (HW.out.trans (hb2.mono HW.out.size))
  clear hb2 HBT
  have cA := rowc RA.out
  go_wp2_with fail
  refine (HTM.out w2 HW.out).mono ?_; rintro e w3 ⟨b, rfl, hb3⟩
  replace RA := Lib.hid (row_keep hb3 RA.out); replace RB := Lib.hid (row_keep hb3 RB.out); replace HW := Lib.hid (HW.out.trans (hb3.mono HW.out.size))
  clear hb3 cA HTM
  cases b with
  | false =>
    go_wp2_with fail
    go_ret
    exact ⟨rfl, HW.out⟩
  | true =>
  have cB := rowc RB.out
  go_wp2_with fail
  refine (HWG.out w3 HW.out).mono ?_; rintro e w4 ⟨q, rfl, hb4⟩
  replace RA := Lib.hid (row_keep hb4 RA.out); replace RB := Lib.hid (row_keep hb4 RB.out); replace HW := Lib.hid (HW.out.trans (hb4.mono HW.out.size))
  clear hb4 cB HWG
  by_cases hq : (3000 : Int) < q
  · have dq : decide ((3000 : Int) < q) = true := decide_eq_true hq
    clear hq
    go_wp2_with fail
    go_ret
    exact ⟨rfl, HW.out⟩
  have dq : decide ((3000 : Int) < q) = false := decide_eq_false hq
  have cA := rowc RA.out; have cB := rowc RB.out
  clear hq
  go_wp2_with fail
  refine (HRE.out w4 HW.out).mono ?_; rintro e w5 ⟨rfl, hb5⟩
  replace RA := Lib.hid (row_keep hb5 RA.out); replace RB := Lib.hid (row_keep hb5 RB.out); replace HW := Lib.hid (HW.out.trans (hb5.mono HW.out.size))
  clear hb5 cA cB HRE dq
  go_upto_region 5 with fail
  refine AnyE.region (S := fun w' => (∀ j_1, w'.cell? ⟨w.heap.size, j_1, none⟩ = (#[.int .i64 n.id, .string n.name, .int .i64 n.rep, .int .i64 n.kind, .slice au len cu] : Array Value)[j_1]?) ∧ (∀ j_1, w'.cell? ⟨w.heap.size + 1, j_1, none⟩ = (#[.bool d.no, .int .i64 d.v.k, .int .i64 d.v.n, .string d.v.s, .slice al nl cl, .slice af nf cf] : Array Value)[j_1]?)) (E := []) (by kernel_rfl) ?_
  have hbd := (Below.refl w5.heap.size w5).drew
  replace HW := Lib.hid (HW.out.trans (hbd.mono HW.out.size)); replace RA := Lib.hid (row_keep hbd RA.out); replace RB := Lib.hid (row_keep hbd RB.out)
  clear hbd
  generalize w5.drew = wd at *
  have hS := (⟨rowc RA.out, rowc RB.out⟩ : (fun w' => (∀ j_1, w'.cell? ⟨w.heap.size, j_1, none⟩ = (#[.int .i64 n.id, .string n.name, .int .i64 n.rep, .int .i64 n.kind, .slice au len cu] : Array Value)[j_1]?) ∧ (∀ j_1, w'.cell? ⟨w.heap.size + 1, j_1, none⟩ = (#[.bool d.no, .int .i64 d.v.k, .int .i64 d.v.n, .string d.v.s, .slice al nl cl, .slice af nf cf] : Array Value)[j_1]?)) wd)
  refine AnyE.take (i := 0) (v := ?_) rfl (by kernel_rfl) (by kernel_rfl) (by kernel_rfl) (by kernel_rfl) (by kernel_rfl) (fun _ _ _ h => h) (Or.inl ⟨by rfl, ?_⟩) hS ?_
  rotate_left
  focus (intro wq hSq; obtain ⟨hS1, hS2⟩ := hSq; go_simp; with_reducible rfl)
  try simp only [Act.put, List.getElem_toArray, List.getElem_cons_succ, List.getElem_cons_zero, List.setIfInBounds_toArray, List.set_cons_zero, List.set_cons_succ]
  refine AnyE.take (i := 2) (v := ?_) rfl (by kernel_rfl) (by kernel_rfl) (by kernel_rfl) (by kernel_rfl) (by kernel_rfl) (fun _ _ _ h => h) (Or.inl ⟨by rfl, ?_⟩) hS ?_
  rotate_left
  focus (intro wq hSq; obtain ⟨hS1, hS2⟩ := hSq; go_simp; with_reducible rfl)
  try simp only [Act.put, List.getElem_toArray, List.getElem_cons_succ, List.getElem_cons_zero, List.setIfInBounds_toArray, List.set_cons_zero, List.set_cons_succ]
  refine AnyE.one (i := 1) (by kernel_rfl) rfl rfl ?_
  intro K hK
  simp only [List.getElem_toArray, List.getElem_cons_succ, List.getElem_cons_zero]
  go_simp
  refine (HON.out wd HW.out).mono ?_; rintro e x5 ⟨a5, c5, rfl, hn5, hb5⟩
  replace HW := Lib.hid (HW.out.trans (hb5.mono HW.out.size)); replace RA := Lib.hid (row_keep hb5 RA.out); replace RB := Lib.hid (row_keep hb5 RB.out)
  have HN5 := Lib.hid (hn5.mono (Q := (· < x5.heap.size)) fun b _ hb => hb)
  have hS9 := (⟨rowc RA.out, rowc RB.out⟩ : (fun w' => (∀ j_1, w'.cell? ⟨w.heap.size, j_1, none⟩ = (#[.int .i64 n.id, .string n.name, .int .i64 n.rep, .int .i64 n.kind, .slice au len cu] : Array Value)[j_1]?) ∧ (∀ j_1, w'.cell? ⟨w.heap.size + 1, j_1, none⟩ = (#[.bool d.no, .int .i64 d.v.k, .int .i64 d.v.n, .string d.v.s, .slice al nl cl, .slice af nf cf] : Array Value)[j_1]?)) x5)
  refine hK _ _ (fun _ => hS9) ?_
  clear hK K hS
  have hS := hS9
  clear hS9
  clear hn5 hb5
  try simp only [Act.put, List.getElem_toArray, List.getElem_cons_succ, List.getElem_cons_zero, List.setIfInBounds_toArray, List.set_cons_zero, List.set_cons_succ]
  refine AnyE.one (i := 3) (by kernel_rfl) rfl rfl ?_
  intro K hK
  simp only [List.getElem_toArray, List.getElem_cons_succ, List.getElem_cons_zero]
  go_simp
  refine (HOD.out x5 HW.out).mono ?_; rintro e x6 ⟨a6, c6, a7, c7, rfl, hd6, hd7, hb6⟩
  replace HW := Lib.hid (HW.out.trans (hb6.mono HW.out.size)); replace RA := Lib.hid (row_keep hb6 RA.out); replace RB := Lib.hid (row_keep hb6 RB.out)
  replace HN5 := Lib.hid ((HN5.out.under hb6).mono (Q := (· < x6.heap.size)) fun b hb _ => Nat.lt_of_lt_of_le hb hb6.size)
  have HD6 := Lib.hid (hd6.mono (Q := (· < x6.heap.size)) fun b _ hb => hb); have HD7 := Lib.hid (hd7.mono (Q := (· < x6.heap.size)) fun b _ hb => hb)
  have hS9 := (⟨rowc RA.out, rowc RB.out⟩ : (fun w' => (∀ j_1, w'.cell? ⟨w.heap.size, j_1, none⟩ = (#[.int .i64 n.id, .string n.name, .int .i64 n.rep, .int .i64 n.kind, .slice au len cu] : Array Value)[j_1]?) ∧ (∀ j_1, w'.cell? ⟨w.heap.size + 1, j_1, none⟩ = (#[.bool d.no, .int .i64 d.v.k, .int .i64 d.v.n, .string d.v.s, .slice al nl cl, .slice af nf cf] : Array Value)[j_1]?)) x6)
  refine hK _ _ (fun _ => hS9) ?_
  clear hK K hS
  have hS := hS9
  clear hS9
  clear hd6 hd7 hb6
  try simp only [Act.put, List.getElem_toArray, List.getElem_cons_succ, List.getElem_cons_zero, List.setIfInBounds_toArray, List.set_cons_zero, List.set_cons_succ]
  refine AnyE.one (i := 4) (by kernel_rfl) rfl rfl ?_
  intro K hK
  simp only [List.getElem_toArray, List.getElem_cons_succ, List.getElem_cons_zero]
  go_simp
  refine (HTP.out x6 HW.out _ _ _ HN5.out HD6.out HD7.out).mono ?_; rintro e w7 ⟨rfl, hb7⟩
  replace HW := Lib.hid (HW.out.trans (hb7.mono HW.out.size)); replace RA := Lib.hid (row_keep hb7 RA.out); replace RB := Lib.hid (row_keep hb7 RB.out)
  have hS9 := (⟨rowc RA.out, rowc RB.out⟩ : (fun w' => (∀ j_1, w'.cell? ⟨w.heap.size, j_1, none⟩ = (#[.int .i64 n.id, .string n.name, .int .i64 n.rep, .int .i64 n.kind, .slice au len cu] : Array Value)[j_1]?) ∧ (∀ j_1, w'.cell? ⟨w.heap.size + 1, j_1, none⟩ = (#[.bool d.no, .int .i64 d.v.k, .int .i64 d.v.n, .string d.v.s, .slice al nl cl, .slice af nf cf] : Array Value)[j_1]?)) w7)
  refine hK _ _ (fun _ => hS9) ?_
  clear hK K hS
  have hS := hS9
  clear hS9
  clear hb7 HN5 HD6 HD7 HTP
  try simp only [Act.put, List.getElem_toArray, List.getElem_cons_succ, List.getElem_cons_zero, List.setIfInBounds_toArray, List.set_cons_zero, List.set_cons_succ]
  refine AnyE.take (i := 5) (v := ?_) rfl (by kernel_rfl) (by kernel_rfl) (by kernel_rfl) (by kernel_rfl) (by kernel_rfl) (fun _ _ _ h => h) (Or.inl ⟨by rfl, ?_⟩) hS ?_
  rotate_left
  focus (intro wq hSq; obtain ⟨hS1, hS2⟩ := hSq; go_simp; with_reducible rfl)
  try simp only [Act.put, List.getElem_toArray, List.getElem_cons_succ, List.getElem_cons_zero, List.setIfInBounds_toArray, List.set_cons_zero, List.set_cons_succ]
  refine AnyE.take (i := 6) (v := ?_) rfl (by kernel_rfl) (by kernel_rfl) (by kernel_rfl) (by kernel_rfl) (by kernel_rfl) (fun _ _ _ h => h) (Or.inl ⟨by rfl, ?_⟩) hS ?_
  rotate_left
  focus (intro wq hSq; obtain ⟨hS1, hS2⟩ := hSq; go_simp; with_reducible rfl)
  try simp only [Act.put, List.getElem_toArray, List.getElem_cons_succ, List.getElem_cons_zero, List.setIfInBounds_toArray, List.set_cons_zero, List.set_cons_succ]
  refine AnyE.take (i := 7) (v := ?_) rfl (by kernel_rfl) (by kernel_rfl) (by kernel_rfl) (by kernel_rfl) (by kernel_rfl) (fun _ _ _ h => h) (Or.inl ⟨by rfl, ?_⟩) hS ?_
  rotate_left
  focus (intro wq hSq; obtain ⟨hS1, hS2⟩ := hSq; go_simp; with_reducible rfl)
  try simp only [Act.put, List.getElem_toArray, List.getElem_cons_succ, List.getElem_cons_zero, List.setIfInBounds_toArray, List.set_cons_zero, List.set_cons_succ]
  refine AnyE.take (i := 8) (v := ?_) rfl (by kernel_rfl) (by kernel_rfl) (by kernel_rfl) (by kernel_rfl) (by kernel_rfl) (fun _ _ _ h => h) (Or.inl ⟨by rfl, ?_⟩) hS ?_
  rotate_left
  focus (intro wq hSq; obtain ⟨hS1, hS2⟩ := hSq; go_simp; with_reducible rfl)
  try simp only [Act.put, List.getElem_toArray, List.getElem_cons_succ, List.getElem_cons_zero, List.setIfInBounds_toArray, List.set_cons_zero, List.set_cons_succ]
  refine AnyE.take (i := 9) (v := ?_) rfl (by kernel_rfl) (by kernel_rfl) (by kernel_rfl) (by kernel_rfl) (by kernel_rfl) (fun _ _ _ h => h) (Or.inl ⟨by rfl, ?_⟩) hS ?_
  rotate_left
  focus (intro wq hSq; obtain ⟨hS1, hS2⟩ := hSq; go_simp; with_reducible rfl)
  try simp only [Act.put, List.getElem_toArray, List.getElem_cons_succ, List.getElem_cons_zero, List.setIfInBounds_toArray, List.set_cons_zero, List.set_cons_succ]
  refine AnyE.done (by kernel_rfl) ?_ _
  clear hS
  go_upto_region 6 with fail
  refine AnyE.region (S := fun w' => (∀ j_1, w'.cell? ⟨w.heap.size, j_1, none⟩ = (#[.int .i64 n.id, .string n.name, .int .i64 n.rep, .int .i64 n.kind, .slice au len cu] : Array Value)[j_1]?) ∧ (∀ j_1, w'.cell? ⟨w.heap.size + 1, j_1, none⟩ = (#[.bool d.no, .int .i64 d.v.k, .int .i64 d.v.n, .string d.v.s, .slice al nl cl, .slice af nf cf] : Array Value)[j_1]?)) (E := []) (by kernel_rfl) ?_
  have hbd := (Below.refl w7.heap.size w7).drew
  replace HW := Lib.hid (HW.out.trans (hbd.mono HW.out.size)); replace RA := Lib.hid (row_keep hbd RA.out); replace RB := Lib.hid (row_keep hbd RB.out)
  clear hbd
  generalize w7.drew = we at *
  have hS := (⟨rowc RA.out, rowc RB.out⟩ : (fun w' => (∀ j_1, w'.cell? ⟨w.heap.size, j_1, none⟩ = (#[.int .i64 n.id, .string n.name, .int .i64 n.rep, .int .i64 n.kind, .slice au len cu] : Array Value)[j_1]?) ∧ (∀ j_1, w'.cell? ⟨w.heap.size + 1, j_1, none⟩ = (#[.bool d.no, .int .i64 d.v.k, .int .i64 d.v.n, .string d.v.s, .slice al nl cl, .slice af nf cf] : Array Value)[j_1]?)) we)
  refine AnyE.take (i := 0) (v := ?_) rfl (by kernel_rfl) (by kernel_rfl) (by kernel_rfl) (by kernel_rfl) (by kernel_rfl) (fun _ _ _ h => h) (Or.inl ⟨by rfl, ?_⟩) hS ?_
  rotate_left
  focus (intro wq hSq; obtain ⟨hS1, hS2⟩ := hSq; go_simp; with_reducible rfl)
  try simp only [Act.put, List.getElem_toArray, List.getElem_cons_succ, List.getElem_cons_zero, List.setIfInBounds_toArray, List.set_cons_zero, List.set_cons_succ]
  refine AnyE.take (i := 2) (v := ?_) rfl (by kernel_rfl) (by kernel_rfl) (by kernel_rfl) (by kernel_rfl) (by kernel_rfl) (fun _ _ _ h => h) (Or.inl ⟨by rfl, ?_⟩) hS ?_
  rotate_left
  focus (intro wq hSq; obtain ⟨hS1, hS2⟩ := hSq; go_simp; with_reducible rfl)
  try simp only [Act.put, List.getElem_toArray, List.getElem_cons_succ, List.getElem_cons_zero, List.setIfInBounds_toArray, List.set_cons_zero, List.set_cons_succ]
  refine AnyE.take (i := 5) (v := ?_) rfl (by kernel_rfl) (by kernel_rfl) (by kernel_rfl) (by kernel_rfl) (by kernel_rfl) (fun _ _ _ h => h) (Or.inl ⟨by rfl, ?_⟩) hS ?_
  rotate_left
  focus (intro wq hSq; obtain ⟨hS1, hS2⟩ := hSq; go_simp; with_reducible rfl)
  try simp only [Act.put, List.getElem_toArray, List.getElem_cons_succ, List.getElem_cons_zero, List.setIfInBounds_toArray, List.set_cons_zero, List.set_cons_succ]
  refine AnyE.one (i := 1) (by kernel_rfl) rfl rfl ?_
  intro K hK
  simp only [List.getElem_toArray, List.getElem_cons_succ, List.getElem_cons_zero]
  go_simp
  refine (HON.out we HW.out).mono ?_; rintro e y5 ⟨a5, c5, rfl, hn5, hb5⟩
  replace HW := Lib.hid (HW.out.trans (hb5.mono HW.out.size)); replace RA := Lib.hid (row_keep hb5 RA.out); replace RB := Lib.hid (row_keep hb5 RB.out)
  have HN5 := Lib.hid (hn5.mono (Q := (· < y5.heap.size)) fun b _ hb => hb)
  have hS9 := (⟨rowc RA.out, rowc RB.out⟩ : (fun w' => (∀ j_1, w'.cell? ⟨w.heap.size, j_1, none⟩ = (#[.int .i64 n.id, .string n.name, .int .i64 n.rep, .int .i64 n.kind, .slice au len cu] : Array Value)[j_1]?) ∧ (∀ j_1, w'.cell? ⟨w.heap.size + 1, j_1, none⟩ = (#[.bool d.no, .int .i64 d.v.k, .int .i64 d.v.n, .string d.v.s, .slice al nl cl, .slice af nf cf] : Array Value)[j_1]?)) y5)
  refine hK _ _ (fun _ => hS9) ?_
  clear hK K hS
  have hS := hS9
  clear hS9
  clear hn5 hb5
  try simp only [Act.put, List.getElem_toArray, List.getElem_cons_succ, List.getElem_cons_zero, List.setIfInBounds_toArray, List.set_cons_zero, List.set_cons_succ]
  refine AnyE.one (i := 3) (by kernel_rfl) rfl rfl ?_
  intro K hK
  simp only [List.getElem_toArray, List.getElem_cons_succ, List.getElem_cons_zero]
  go_simp
  refine (HOD.out y5 HW.out).mono ?_; rintro e y6 ⟨a6, c6, a7, c7, rfl, hd6, hd7, hb6⟩
  replace HW := Lib.hid (HW.out.trans (hb6.mono HW.out.size)); replace RA := Lib.hid (row_keep hb6 RA.out); replace RB := Lib.hid (row_keep hb6 RB.out)
  replace HN5 := Lib.hid ((HN5.out.under hb6).mono (Q := (· < y6.heap.size)) fun b hb _ => Nat.lt_of_lt_of_le hb hb6.size)
  have HD6 := Lib.hid (hd6.mono (Q := (· < y6.heap.size)) fun b _ hb => hb); have HD7 := Lib.hid (hd7.mono (Q := (· < y6.heap.size)) fun b _ hb => hb)
  have hS9 := (⟨rowc RA.out, rowc RB.out⟩ : (fun w' => (∀ j_1, w'.cell? ⟨w.heap.size, j_1, none⟩ = (#[.int .i64 n.id, .string n.name, .int .i64 n.rep, .int .i64 n.kind, .slice au len cu] : Array Value)[j_1]?) ∧ (∀ j_1, w'.cell? ⟨w.heap.size + 1, j_1, none⟩ = (#[.bool d.no, .int .i64 d.v.k, .int .i64 d.v.n, .string d.v.s, .slice al nl cl, .slice af nf cf] : Array Value)[j_1]?)) y6)
  refine hK _ _ (fun _ => hS9) ?_
  clear hK K hS
  have hS := hS9
  clear hS9
  clear hd6 hd7 hb6
  try simp only [Act.put, List.getElem_toArray, List.getElem_cons_succ, List.getElem_cons_zero, List.setIfInBounds_toArray, List.set_cons_zero, List.set_cons_succ]
  refine AnyE.one (i := 4) (by kernel_rfl) rfl rfl ?_
  intro K hK
  simp only [List.getElem_toArray, List.getElem_cons_succ, List.getElem_cons_zero]
  go_simp
  refine (HCK.out y6 HW.out _ _ _ HN5.out HD6.out HD7.out).mono ?_; rintro e w8 ⟨rfl, hb8⟩
  replace HW := Lib.hid (HW.out.trans (hb8.mono HW.out.size)); replace RA := Lib.hid (row_keep hb8 RA.out); replace RB := Lib.hid (row_keep hb8 RB.out)
  have hS9 := (⟨rowc RA.out, rowc RB.out⟩ : (fun w' => (∀ j_1, w'.cell? ⟨w.heap.size, j_1, none⟩ = (#[.int .i64 n.id, .string n.name, .int .i64 n.rep, .int .i64 n.kind, .slice au len cu] : Array Value)[j_1]?) ∧ (∀ j_1, w'.cell? ⟨w.heap.size + 1, j_1, none⟩ = (#[.bool d.no, .int .i64 d.v.k, .int .i64 d.v.n, .string d.v.s, .slice al nl cl, .slice af nf cf] : Array Value)[j_1]?)) w8)
  refine hK _ _ (fun _ => hS9) ?_
  clear hK K hS
  have hS := hS9
  clear hS9
  clear hb8 HN5 HD6 HD7 HCK
  try simp only [Act.put, List.getElem_toArray, List.getElem_cons_succ, List.getElem_cons_zero, List.setIfInBounds_toArray, List.set_cons_zero, List.set_cons_succ]
  refine AnyE.one (i := 6) (by kernel_rfl) rfl rfl ?_
  intro K hK
  simp only [List.getElem_toArray, List.getElem_cons_succ, List.getElem_cons_zero]
  go_simp
  refine (HCD.out w8 HW.out).mono ?_; rintro e w9 ⟨rfl, hb9⟩
  replace HW := Lib.hid (HW.out.trans (hb9.mono HW.out.size)); replace RA := Lib.hid (row_keep hb9 RA.out); replace RB := Lib.hid (row_keep hb9 RB.out)
  have hS9 := (⟨rowc RA.out, rowc RB.out⟩ : (fun w' => (∀ j_1, w'.cell? ⟨w.heap.size, j_1, none⟩ = (#[.int .i64 n.id, .string n.name, .int .i64 n.rep, .int .i64 n.kind, .slice au len cu] : Array Value)[j_1]?) ∧ (∀ j_1, w'.cell? ⟨w.heap.size + 1, j_1, none⟩ = (#[.bool d.no, .int .i64 d.v.k, .int .i64 d.v.n, .string d.v.s, .slice al nl cl, .slice af nf cf] : Array Value)[j_1]?)) w9)
  refine hK _ _ (fun _ => hS9) ?_
  clear hK K hS
  have hS := hS9
  clear hS9
  clear hb9
  try simp only [Act.put, List.getElem_toArray, List.getElem_cons_succ, List.getElem_cons_zero, List.setIfInBounds_toArray, List.set_cons_zero, List.set_cons_succ]
  refine AnyE.take (i := 7) (v := ?_) rfl (by kernel_rfl) (by kernel_rfl) (by kernel_rfl) (by kernel_rfl) (by kernel_rfl) (fun _ _ _ h => h) (Or.inl ⟨by rfl, ?_⟩) hS ?_
  rotate_left
  focus (intro wq hSq; obtain ⟨hS1, hS2⟩ := hSq; go_simp; with_reducible rfl)
  try simp only [Act.put, List.getElem_toArray, List.getElem_cons_succ, List.getElem_cons_zero, List.setIfInBounds_toArray, List.set_cons_zero, List.set_cons_succ]
  refine AnyE.done (by kernel_rfl) ?_ _
  clear hS
  have cA := rowc RA.out; have cB := rowc RB.out
  cases E with
  | succ k =>
    obtain rfl : [] = Rt := by have := HRt.out; rwa [if_neg (by omega)] at this
    have d0 : decide ((0 : Int) < ((k + 1 : Nat) : Int)) = true := decide_eq_true (by omega)
    go_wp2_with fail
    refine (HCD.out w9 HW.out).mono ?_; rintro e x9 ⟨rfl, hb9⟩
    replace HW := Lib.hid (HW.out.trans (hb9.mono HW.out.size))
    clear hb9
    go_wp2_with fail
    go_ret
    exact ⟨rfl, HW.out⟩
  | zero =>
    obtain rfl : D = Rt := by have := HRt.out; rwa [if_pos rfl] at this
    have HDT2 := Lib.hid (HDT.out rfl)
    clear HDT
    unfold eV
    go_wp2_with fail
    refine (HDT2.out w9 HW.out).mono ?_; rintro e x9 ⟨rfl, hb9⟩
    replace HW := Lib.hid (HW.out.trans (hb9.mono HW.out.size))
    clear hb9
    go_wp2_with fail
    go_ret
    exact ⟨rfl, HW.out⟩
end Go.Proofs.YthfljcpfcnddhaaGreatDoor
