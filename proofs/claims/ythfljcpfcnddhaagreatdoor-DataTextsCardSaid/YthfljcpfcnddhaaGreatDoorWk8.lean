/- The statement DataWalks. Written by gen_wk8.py. -/
import Derived.Test.YthfljcpfcnddhaaGreatDoorWk6
import Derived.Test.YthfljcpfcnddhaaGreatDoorWk5
import Derived.Test.YthfljcpfcnddhaaGreatDoorWk4
import Derived.Test.YthfljcpfcnddhaaGreatDoorSamV
import Derived.Test.YthfljcpfcnddhaaGreatDoorDv1
import Derived.Test.YthfljcpfcnddhaaGreatDoorTv3
import Derived.Test.YthfljcpfcnddhaaGreatDoorDtArgs
import Derived.LaidSub
namespace Go.Proofs.YthfljcpfcnddhaaGreatDoor
set_option linter.unusedVariables false
set_option linter.unusedSimpArgs false
open Go Go.RowKit Go.ChangeShapes

theorem findD_N {n : Nd} {id : Int} (hv : validE n = 0) : (findD (flatF [] n 1 (-1)) id).map Pl.n = findN (nodes n) id := by
  have h := valid_small hv
  have hm : (flatF [] n 1 (-1)).map Pl.n = nodes n := by
    rw [flat_small.1 n [] 1 (-1) (by simp; omega) (by omega)]
    exact plc_nodes.1 n 0 1 (-1)
  unfold findD findN
  rw [← hm, List.find?_map]
  rfl
theorem walkE_le (n : Nd) (d : Dt) (id : Int) (hd : datE n false d ≤ 8) (hv : validE n ≤ 8) : walkE n d id ≤ 8 := by
  unfold walkE recE
  repeat' split
  all_goals omega
theorem datEL_le (n : Nd) : ∀ (l : List Dt), (∀ x ∈ l, ∀ n one, datE n one x ≤ 4) → datEL n l ≤ 4
  | [], _ => by simp [datEL]
  | a :: r, h => by
    simp only [datEL]
    split
    · exact datEL_le n r fun x hx => h x (List.mem_cons_of_mem _ hx)
    · exact h a (List.mem_cons_self ..) n true
theorem datEF_le : ∀ (s : List Nd) (l : List Dt), (∀ x ∈ l, ∀ n one, datE n one x ≤ 4) → datEF s l ≤ 4
  | [], _, _ => by simp [datEF]
  | m :: t, [], _ => by simp [datEF]
  | m :: t, a :: r, h => by
    simp only [datEF]
    split
    · exact datEF_le t r fun x hx => h x (List.mem_cons_of_mem _ hx)
    · exact h a (List.mem_cons_self ..) m false
theorem datE_le : ∀ (d : Dt) (n : Nd) (one : Bool), datE n one d ≤ 4 := by
  apply Dt.ind
  intro d IHl IHf n one
  rw [datE_eq]
  repeat' split
  all_goals first | omega | exact datEL_le n d.l IHl | exact datEF_le n.sub d.f IHf
theorem valid_le8 (n : Nd) : validE n ≤ 8 := by
  unfold validE
  repeat' split
  all_goals omega

set_option maxRecDepth 100000 in
set_option maxHeartbeats 32000000 in
theorem walks_main (n : Nd) (d : Dt) (id : Int) (u ul uf : Value) (w : World) (adr : Nat → Addr) (hE : ErrEnv w adr) (hN : IsNds (· < w.heap.size) w u n.sub) (hO : ∀ x ∈ nodes n, x.Ok1)
    (hl : IsDts (· < w.heap.size) w ul d.l) (hf : IsDts (· < w.heap.size) w uf d.f) (hD : ∀ x ∈ dts d, x.Ok1)
    (hbit : ∀ w1, Below w.heap.size w w1 → Calls Tryz.prog 9 #[] w1 fun e w' => e = .returned (.bool true) ∧ Below w1.heap.size w1 w') :
    Calls Tryz.prog 4 #[.agg (ndA n u), .agg (dtA d ul uf), .int .i64 id] w fun e w' => e = .returned (.bool true) ∧ Below w.heap.size w w' := by
  have HN := Lib.hid (fun (w1 : World) (h : Below w.heap.size w w1) => (hN.under h).mono (Q := (· < w1.heap.size)) fun b hb _ => Nat.lt_of_lt_of_le hb h.size)
  have HLl := Lib.hid (fun (w1 : World) (h : Below w.heap.size w w1) => (hl.under h).mono (Q := (· < w1.heap.size)) fun b hb _ => Nat.lt_of_lt_of_le hb h.size)
  have HLf := Lib.hid (fun (w1 : World) (h : Below w.heap.size w w1) => (hf.under h).mono (Q := (· < w1.heap.size)) fun b hb _ => Nat.lt_of_lt_of_le hb h.size)
  have HBT := Lib.hid hbit
  have HTM := Lib.hid (fun (w1 : World) (h : Below w.heap.size w w1) => tame_any n u w1 (HN.out w1 h) hO)
  have HWG := Lib.hid (fun (w1 : World) (h : Below w.heap.size w w1) => weight_any d ul uf w1 (HLl.out w1 h) (HLf.out w1 h) hD)
  have HRE := Lib.hid (fun (w1 : World) (h : Below w.heap.size w w1) => recordErr_any n d u ul uf w1 (HN.out w1 h) hO (HLl.out w1 h) (HLf.out w1 h) hD)
  have HFO := Lib.hid (fun (w1 : World) (h : Below w.heap.size w w1) => findOf_any n u id w1 (HN.out w1 h) hO)
  have HON := Lib.hid (fun (w1 : World) (h : Below w.heap.size w w1) => ownNode_any n u w1 (HN.out w1 h) hO)
  have HOD := Lib.hid (fun (w1 : World) (h : Below w.heap.size w w1) => ownDatum_any d ul uf w1 (HLl.out w1 h) (HLf.out w1 h) hD)
  have HWP := Lib.hid (fun (w1 : World) (h : Below w.heap.size w w1) (x y z : Value) (hx : IsNds (· < w1.heap.size) w1 x n.sub) (hy : IsDts (· < w1.heap.size) w1 y d.l) (hz : IsDts (· < w1.heap.size) w1 z d.f) => walkP_any adr n d id x y z w1 ((hE.below h).errs.sub (by decide)) hx hO hy hz hD)
  have HWO := Lib.hid (fun (h0 : recE n d = 0) (w1 : World) (h : Below w.heap.size w w1) => walkOf_any id d n u ul uf false w1 (HN.out w1 h) hO (valid_okRep (recE_zero h0).1) (HLl.out w1 h) (HLf.out w1 h) hD (recE_zero h0).2 (by
      have h1 := valid_small (recE_zero h0).1
      have := walkV_cap (id := id) (recE_zero h0).2 h1.1 h1.2
      omega))
  have HSV := Lib.hid (fun (w1 : World) (x y : Value) (L : List Val) (hx : IsVals w1 x L) (hy : IsVals w1 y L) (hc : L.length ≤ 200000000000) => sameValues_any x y L L w1 hx hy (by unfold maxLen; omega) (by unfold maxLen; omega))
  have HCD := Lib.hid (fun (k : Nat) (hk : walkE n d id = k + 1) (w1 : World) (h : Below w.heap.size w w1) =>
    show Calls Tryz.prog 16 #[.iface 231 (.pointer (some (adr (k + 1)))), .int .i64 ((k : Int) + 1)] w1 fun r w' => r = .returned (.bool true) ∧ Below w1.heap.size w1 w' from
    (coded_any (w := w1) (adr := adr) (e := .sent (k + 1)) (v := .iface 231 (.pointer (some (adr (k + 1))))) ((k : Int) + 1) (hE.below h) ⟨by omega, by have := walkE_le n d id (Nat.le_trans (datE_le d n false) (by decide)) (valid_le8 n); omega, rfl⟩).mono fun r w' ⟨h3, h4⟩ => ⟨h3.trans (ret_of (by simp [GErr.code, GErr.at'])), h4⟩)
  have HFN := Lib.hid (fun (h0 : recE n d = 0) => findD_N (n := n) (id := id) (recE_zero h0).1)
  obtain ⟨au, cu, rfl⟩ := hN.form
  obtain ⟨al, cl, rfl⟩ := hl.form
  obtain ⟨af, cf, rfl⟩ := hf.form
  obtain ⟨len, hnl0⟩ : ∃ len, n.sub.length = len := ⟨_, rfl⟩
  obtain ⟨nl, hnl⟩ : ∃ nl, d.l.length = nl := ⟨_, rfl⟩
  obtain ⟨nf, hnf⟩ : ∃ nf, d.f.length = nf := ⟨_, rfl⟩
  unfold OwnRet at HON
  unfold OwnDRet at HOD
  unfold WalkPRet at HWP
  unfold ErrRet at HRE
  rw [hnl0] at HTM HRE HFO HON HWO; rw [hnl, hnf] at HWG HRE HOD HWO
  rw [hnl0, hnl, hnf]
  obtain ⟨C, hC1⟩ : ∃ C, recE n d = C := ⟨_, rfl⟩
  rw [hC1] at HRE HWO HFN
  obtain ⟨E, hE1⟩ : ∃ E, walkE n d id = E := ⟨_, rfl⟩
  rw [hE1] at HWP HCD
  have HE1 := Lib.hid hE1
  have HRq := Lib.hid (show walkR n d id = if E = 0 then walkV n id false d else [] by unfold walkR; rw [hE1])
  unfold walkE at hE1
  rw [hC1] at hE1
  have HEq := Lib.hid hE1; have HC1 := Lib.hid hC1
  clear hE hN hO hl hf hD hbit hnl0 hnl hnf hE1 hC1
  unfold ndA dtA at *
  go_enter Tryz.func4, Tryz.ntmps4
  go_upto_region 1 with fail
  obtain ⟨rA, rB, hbw, hz⟩ := rows2 (w := w) (A := .cells #[.int .i64 n.id, .string n.name, .int .i64 n.rep, .int .i64 n.kind, .slice au len cu] 24) (B := .cells #[.bool d.no, .int .i64 d.v.k, .int .i64 d.v.n, .string d.v.s, .slice al nl cl, .slice af nf cf] 29) (Below.refl _ _)
  generalize ((w.alloc (.cells #[.int .i64 n.id, .string n.name, .int .i64 n.rep, .int .i64 n.kind, .slice au len cu] 24)).alloc (.cells #[.bool d.no, .int .i64 d.v.k, .int .i64 d.v.n, .string d.v.s, .slice al nl cl, .slice af nf cf] 29)) = w1 at *
  have HW := Lib.hid hbw; have RA := Lib.hid rA; have RB := Lib.hid rB
  clear rA rB hbw hz
  go_wp2_with fail
  refine (HBT.out w1 HW.out).mono ?_; rintro e w2 ⟨rfl, hb2⟩
  replace RA := Lib.hid (row_keep hb2 RA.out); replace RB := Lib.hid (row_keep hb2 RB.out); replace HW := Lib.hid (HW.out.trans (hb2.mono HW.out.size))
  clear hb2 HBT
  have cA := rowc RA.out
  go_wp2_with fail
  refine (HTM.out w2 HW.out).mono ?_; rintro e w3 ⟨b, rfl, hb3⟩
  replace RA := Lib.hid (row_keep hb3 RA.out); replace RB := Lib.hid (row_keep hb3 RB.out); replace HW := Lib.hid (HW.out.trans (hb3.mono HW.out.size))
  clear hb3 cA HTM
  cases b with
  | false =>
    go_wp2_with fail
    go_ret
    exact ⟨rfl, HW.out⟩
  | true =>
  have cB := rowc RB.out
  go_wp2_with fail
  refine (HWG.out w3 HW.out).mono ?_; rintro e w4 ⟨q, rfl, hb4⟩
  replace RA := Lib.hid (row_keep hb4 RA.out); replace RB := Lib.hid (row_keep hb4 RB.out); replace HW := Lib.hid (HW.out.trans (hb4.mono HW.out.size))
  clear hb4 cB HWG
  by_cases hq : (3000 : Int) < q
  · have dq : decide ((3000 : Int) < q) = true := decide_eq_true hq
    clear hq
    go_wp2_with fail
    go_ret
    exact ⟨rfl, HW.out⟩
  have dq : decide ((3000 : Int) < q) = false := decide_eq_false hq
  have cA := rowc RA.out; have cB := rowc RB.out
  clear hq
  go_wp2_with fail
  refine (HRE.out w4 HW.out).mono ?_; rintro e w5 ⟨rfl, hb5⟩
  replace RA := Lib.hid (row_keep hb5 RA.out); replace RB := Lib.hid (row_keep hb5 RB.out); replace HW := Lib.hid (HW.out.trans (hb5.mono HW.out.size))
  clear hb5 cA cB HRE dq
  go_upto_if 31 with fail
  go_cut [8] (fun s8 wx => s8 = .int .i64 (E : Nat) ∧ Below w5.heap.size w5 wx)
  case first =>
    by_cases hC : C = 0
    case neg =>
      have d0 : ((C : Int) == 0) = false := by simpa using hC
      have h1 := HEq.out
      rw [if_pos hC] at h1
      subst h1
      clear hC
      go_wp2_with fail
      go_meet
      exact ⟨rfl, Below.refl _ _⟩
    subst hC
    have h1 := HEq.out
    rw [if_neg (by simp)] at h1
    have HEq2 := Lib.hid h1
    have HFN2 := Lib.hid (HFN.out rfl)
    have cA := rowc RA.out
    clear h1
    go_wp2_with fail
    refine (HFO.out w5 HW.out).mono ?_; rintro e w6 ⟨hb6, hres⟩
    have HB6 := Lib.hid hb6
    clear hb6 cA
    rcases hres with ⟨p, pa, pc, hp, rfl, -⟩ | ⟨hp, rfl⟩
    case inr =>
      have h1 := HEq2.out
      have h2 := HFN2.out
      rw [hp] at h2
      rw [← h2] at h1
      have HV6 := Lib.hid (show (6 : Nat) = E from h1)
      have hbm := (Below.refl w6.heap.size w6).alloc (Nat.le_refl _) (.cells #[.int .i64 0, .string ByteArray.empty, .int .i64 0, .int .i64 0, .slice none 0 0] 24)
      unfold ndA zeroNd Nd.id Nd.name Nd.rep Nd.kind
      go_upto_region 7 with fail
      replace HB6 := Lib.hid (HB6.out.trans (hbm.mono HB6.out.size))
      clear hbm h1 h2 hp
      generalize (w6.alloc (.cells #[.int .i64 0, .string ByteArray.empty, .int .i64 0, .int .i64 0, .slice none 0 0] 24)) = w7 at *
      go_wp2_with fail
      go_meet
      exact ⟨by rw [← HV6.out]; rfl, HB6.out⟩
    have h1 := HEq2.out
    have h2 := HFN2.out
    rw [hp] at h2
    rw [← h2] at h1
    have h1' : (if p.n.kind = 0 then 6 else 0) = E := h1
    have HEQ1 := Lib.hid h1'
    have hbm := (Below.refl w6.heap.size w6).alloc (Nat.le_refl _) (.cells #[.int .i64 p.n.id, .string p.n.name, .int .i64 p.n.rep, .int .i64 p.n.kind, .slice pa p.n.sub.length pc] 24)
    have rP := heap_alloc_new w6 (.cells #[.int .i64 p.n.id, .string p.n.name, .int .i64 p.n.rep, .int .i64 p.n.kind, .slice pa p.n.sub.length pc] 24)
    unfold ndA
    go_upto_region 7 with fail
    replace HB6 := Lib.hid (HB6.out.trans (hbm.mono HB6.out.size)); have RP := Lib.hid rP
    clear hbm h1 h2 h1' hp rP
    generalize (w6.alloc (.cells #[.int .i64 p.n.id, .string p.n.name, .int .i64 p.n.rep, .int .i64 p.n.kind, .slice pa p.n.sub.length pc] 24)) = w7 at *
    generalize w6.heap.size = gP at *
    have cP3 : w7.cell? ⟨gP, 3, none⟩ = some (.int .i64 p.n.kind) := rowc RP.out 3
    by_cases hk : p.n.kind = 0
    · have dk : ((p.n.kind : Int) == 0) = true := by simpa using hk
      have h1 := HEQ1.out
      rw [if_pos hk] at h1
      have HV6 := Lib.hid (show (6 : Nat) = E from h1)
      clear hk h1
      go_wp2_with fail
      go_meet
      exact ⟨by rw [← HV6.out]; rfl, HB6.out⟩
    · have dk : ((p.n.kind : Int) == 0) = false := by simpa using hk
      have h1 := HEQ1.out
      rw [if_neg hk] at h1
      have HV6 := Lib.hid (show (0 : Nat) = E from h1)
      clear hk h1
      go_wp2_with fail
      go_meet
      exact ⟨by rw [← HV6.out]; rfl, HB6.out⟩
  case rest =>
  obtain ⟨hs8, hb8⟩ := hcut
  subst hs8
  obtain ⟨wy, hwy⟩ : ∃ wy, wy = wc := ⟨_, rfl⟩; subst hwy
  replace RA := Lib.hid (row_keep hb8 RA.out); replace RB := Lib.hid (row_keep hb8 RB.out); replace HW := Lib.hid (HW.out.trans (hb8.mono HW.out.size))
  clear hb8
  go_upto_region 9 with fail
  refine AnyE.region (S := fun w' => (∀ j_1, w'.cell? ⟨w.heap.size, j_1, none⟩ = (#[.int .i64 n.id, .string n.name, .int .i64 n.rep, .int .i64 n.kind, .slice au len cu] : Array Value)[j_1]?) ∧ (∀ j_1, w'.cell? ⟨w.heap.size + 1, j_1, none⟩ = (#[.bool d.no, .int .i64 d.v.k, .int .i64 d.v.n, .string d.v.s, .slice al nl cl, .slice af nf cf] : Array Value)[j_1]?)) (E := []) (by kernel_rfl) ?_
  have hbd := (Below.refl wy.heap.size wy).drew
  replace HW := Lib.hid (HW.out.trans (hbd.mono HW.out.size)); replace RA := Lib.hid (row_keep hbd RA.out); replace RB := Lib.hid (row_keep hbd RB.out)
  clear hbd
  generalize wy.drew = wd at *
  have hS := (⟨rowc RA.out, rowc RB.out⟩ : (fun w' => (∀ j_1, w'.cell? ⟨w.heap.size, j_1, none⟩ = (#[.int .i64 n.id, .string n.name, .int .i64 n.rep, .int .i64 n.kind, .slice au len cu] : Array Value)[j_1]?) ∧ (∀ j_1, w'.cell? ⟨w.heap.size + 1, j_1, none⟩ = (#[.bool d.no, .int .i64 d.v.k, .int .i64 d.v.n, .string d.v.s, .slice al nl cl, .slice af nf cf] : Array Value)[j_1]?)) wd)
  refine AnyE.take (i := 0) (v := ?_) rfl (by kernel_rfl) (by kernel_rfl) (by kernel_rfl) (by kernel_rfl) (by kernel_rfl) (fun _ _ _ h => h) (Or.inl ⟨by rfl, ?_⟩) hS ?_
  rotate_left
  focus (intro wq hSq; obtain ⟨hS1, hS2⟩ := hSq; go_simp; with_reducible rfl)
  try simp only [Act.put, List.getElem_toArray, List.getElem_cons_succ, List.getElem_cons_zero, List.setIfInBounds_toArray, List.set_cons_zero, List.set_cons_succ]
  refine AnyE.take (i := 2) (v := ?_) rfl (by kernel_rfl) (by kernel_rfl) (by kernel_rfl) (by kernel_rfl) (by kernel_rfl) (fun _ _ _ h => h) (Or.inl ⟨by rfl, ?_⟩) hS ?_
  rotate_left
  focus (intro wq hSq; obtain ⟨hS1, hS2⟩ := hSq; go_simp; with_reducible rfl)
  try simp only [Act.put, List.getElem_toArray, List.getElem_cons_succ, List.getElem_cons_zero, List.setIfInBounds_toArray, List.set_cons_zero, List.set_cons_succ]
  refine AnyE.take (i := 4) (v := ?_) rfl (by kernel_rfl) (by kernel_rfl) (by kernel_rfl) (by kernel_rfl) (by kernel_rfl) (fun _ _ _ h => h) (Or.inl ⟨by rfl, ?_⟩) hS ?_
  rotate_left
  focus (intro wq hSq; obtain ⟨hS1, hS2⟩ := hSq; go_simp; with_reducible rfl)
  try simp only [Act.put, List.getElem_toArray, List.getElem_cons_succ, List.getElem_cons_zero, List.setIfInBounds_toArray, List.set_cons_zero, List.set_cons_succ]
  refine AnyE.one (i := 1) (by kernel_rfl) rfl rfl ?_
  intro K hK
  simp only [List.getElem_toArray, List.getElem_cons_succ, List.getElem_cons_zero]
  go_simp
  refine (HON.out wd HW.out).mono ?_; rintro e w5 ⟨a5, c5, rfl, hn5, hb5⟩
  replace HW := Lib.hid (HW.out.trans (hb5.mono HW.out.size)); replace RA := Lib.hid (row_keep hb5 RA.out); replace RB := Lib.hid (row_keep hb5 RB.out)
  have HN5 := Lib.hid (hn5.mono (Q := (· < w5.heap.size)) fun b _ hb => hb)
  have hS9 := (⟨rowc RA.out, rowc RB.out⟩ : (fun w' => (∀ j_1, w'.cell? ⟨w.heap.size, j_1, none⟩ = (#[.int .i64 n.id, .string n.name, .int .i64 n.rep, .int .i64 n.kind, .slice au len cu] : Array Value)[j_1]?) ∧ (∀ j_1, w'.cell? ⟨w.heap.size + 1, j_1, none⟩ = (#[.bool d.no, .int .i64 d.v.k, .int .i64 d.v.n, .string d.v.s, .slice al nl cl, .slice af nf cf] : Array Value)[j_1]?)) w5)
  refine hK _ _ (fun _ => hS9) ?_
  clear hK K hS
  have hS := hS9
  clear hS9
  clear hn5 hb5
  try simp only [Act.put, List.getElem_toArray, List.getElem_cons_succ, List.getElem_cons_zero, List.setIfInBounds_toArray, List.set_cons_zero, List.set_cons_succ]
  refine AnyE.one (i := 3) (by kernel_rfl) rfl rfl ?_
  intro K hK
  simp only [List.getElem_toArray, List.getElem_cons_succ, List.getElem_cons_zero]
  go_simp
  refine (HOD.out w5 HW.out).mono ?_; rintro e w6 ⟨a6, c6, a7, c7, rfl, hd6, hd7, hb6⟩
  replace HW := Lib.hid (HW.out.trans (hb6.mono HW.out.size)); replace RA := Lib.hid (row_keep hb6 RA.out); replace RB := Lib.hid (row_keep hb6 RB.out)
  replace HN5 := Lib.hid ((HN5.out.under hb6).mono (Q := (· < w6.heap.size)) fun b hb _ => Nat.lt_of_lt_of_le hb hb6.size)
  have HD6 := Lib.hid (hd6.mono (Q := (· < w6.heap.size)) fun b _ hb => hb); have HD7 := Lib.hid (hd7.mono (Q := (· < w6.heap.size)) fun b _ hb => hb)
  have hS9 := (⟨rowc RA.out, rowc RB.out⟩ : (fun w' => (∀ j_1, w'.cell? ⟨w.heap.size, j_1, none⟩ = (#[.int .i64 n.id, .string n.name, .int .i64 n.rep, .int .i64 n.kind, .slice au len cu] : Array Value)[j_1]?) ∧ (∀ j_1, w'.cell? ⟨w.heap.size + 1, j_1, none⟩ = (#[.bool d.no, .int .i64 d.v.k, .int .i64 d.v.n, .string d.v.s, .slice al nl cl, .slice af nf cf] : Array Value)[j_1]?)) w6)
  refine hK _ _ (fun _ => hS9) ?_
  clear hK K hS
  have hS := hS9
  clear hS9
  clear hd6 hd7 hb6
  try simp only [Act.put, List.getElem_toArray, List.getElem_cons_succ, List.getElem_cons_zero, List.setIfInBounds_toArray, List.set_cons_zero, List.set_cons_succ]
  refine AnyE.one (i := 5) (by kernel_rfl) rfl rfl ?_
  intro K hK
  simp only [List.getElem_toArray, List.getElem_cons_succ, List.getElem_cons_zero]
  go_simp
  refine (HWP.out w6 HW.out _ _ _ HN5.out HD6.out HD7.out).mono ?_; rintro e w7 ⟨v7, rfl, ho7, hb7⟩
  have HIV := Lib.hid (IsVals.of_own ho7)
  replace HW := Lib.hid (HW.out.trans (hb7.mono HW.out.size)); replace RA := Lib.hid (row_keep hb7 RA.out); replace RB := Lib.hid (row_keep hb7 RB.out)
  have hS9 := (⟨rowc RA.out, rowc RB.out⟩ : (fun w' => (∀ j_1, w'.cell? ⟨w.heap.size, j_1, none⟩ = (#[.int .i64 n.id, .string n.name, .int .i64 n.rep, .int .i64 n.kind, .slice au len cu] : Array Value)[j_1]?) ∧ (∀ j_1, w'.cell? ⟨w.heap.size + 1, j_1, none⟩ = (#[.bool d.no, .int .i64 d.v.k, .int .i64 d.v.n, .string d.v.s, .slice al nl cl, .slice af nf cf] : Array Value)[j_1]?)) w7)
  refine hK _ _ (fun _ => hS9) ?_
  clear hK K hS
  have hS := hS9
  clear hS9
  clear ho7 hb7
  try simp only [Act.put, List.getElem_toArray, List.getElem_cons_succ, List.getElem_cons_zero, List.setIfInBounds_toArray, List.set_cons_zero, List.set_cons_succ]
  refine AnyE.take (i := 6) (v := ?_) rfl (by kernel_rfl) (by kernel_rfl) (by kernel_rfl) (by kernel_rfl) (by kernel_rfl) (fun _ _ _ h => h) (Or.inl ⟨by rfl, ?_⟩) hS ?_
  rotate_left
  focus (intro wq hSq; obtain ⟨hS1, hS2⟩ := hSq; go_simp; with_reducible rfl)
  try simp only [Act.put, List.getElem_toArray, List.getElem_cons_succ, List.getElem_cons_zero, List.setIfInBounds_toArray, List.set_cons_zero, List.set_cons_succ]
  refine AnyE.take (i := 7) (v := ?_) rfl (by kernel_rfl) (by kernel_rfl) (by kernel_rfl) (by kernel_rfl) (by kernel_rfl) (fun _ _ _ h => h) (Or.inl ⟨by rfl, ?_⟩) hS ?_
  rotate_left
  focus (intro wq hSq; obtain ⟨hS1, hS2⟩ := hSq; go_simp; with_reducible rfl)
  try simp only [Act.put, List.getElem_toArray, List.getElem_cons_succ, List.getElem_cons_zero, List.setIfInBounds_toArray, List.set_cons_zero, List.set_cons_succ]
  refine AnyE.take (i := 8) (v := ?_) rfl (by kernel_rfl) (by kernel_rfl) (by kernel_rfl) (by kernel_rfl) (by kernel_rfl) (fun _ _ _ h => h) (Or.inl ⟨by rfl, ?_⟩) hS ?_
  rotate_left
  focus (intro wq hSq; obtain ⟨hS1, hS2⟩ := hSq; go_simp; with_reducible rfl)
  try simp only [Act.put, List.getElem_toArray, List.getElem_cons_succ, List.getElem_cons_zero, List.setIfInBounds_toArray, List.set_cons_zero, List.set_cons_succ]
  refine AnyE.take (i := 9) (v := ?_) rfl (by kernel_rfl) (by kernel_rfl) (by kernel_rfl) (by kernel_rfl) (by kernel_rfl) (fun _ _ _ h => h) (Or.inl ⟨by rfl, ?_⟩) hS ?_
  rotate_left
  focus (intro wq hSq; obtain ⟨hS1, hS2⟩ := hSq; go_simp; with_reducible rfl)
  try simp only [Act.put, List.getElem_toArray, List.getElem_cons_succ, List.getElem_cons_zero, List.setIfInBounds_toArray, List.set_cons_zero, List.set_cons_succ]
  refine AnyE.take (i := 10) (v := ?_) rfl (by kernel_rfl) (by kernel_rfl) (by kernel_rfl) (by kernel_rfl) (by kernel_rfl) (fun _ _ _ h => h) (Or.inl ⟨by rfl, ?_⟩) hS ?_
  rotate_left
  focus (intro wq hSq; obtain ⟨hS1, hS2⟩ := hSq; go_simp; with_reducible rfl)
  try simp only [Act.put, List.getElem_toArray, List.getElem_cons_succ, List.getElem_cons_zero, List.setIfInBounds_toArray, List.set_cons_zero, List.set_cons_succ]
  refine AnyE.done (by kernel_rfl) ?_ _
  clear hS
  by_cases h0 : E = 0
  case neg =>
    obtain ⟨k, rfl⟩ : ∃ k, E = k + 1 := ⟨E - 1, by omega⟩
    have hv := HIV.out
    rw [HRq.out, if_neg h0] at hv
    obtain ⟨ad, cp, rfl⟩ := hv.form
    have HCD2 := Lib.hid (HCD.out k rfl)
    have d0 : decide ((0 : Int) < ((k + 1 : Nat) : Int)) = true := decide_eq_true (by omega)
    unfold eV
    clear hv h0 HCD HIV
    go_wp2_with fail
    refine (HCD2.out w7 HW.out).mono ?_; rintro e w8 ⟨rfl, hb8⟩
    replace HW := Lib.hid (HW.out.trans (hb8.mono HW.out.size))
    clear hb8
    go_wp2_with fail
    go_ret
    exact ⟨rfl, HW.out⟩
  subst h0
  have hv := HIV.out
  rw [HRq.out, if_pos rfl] at hv
  have HV := Lib.hid hv
  have hC0 : C = 0 := by
    have := HEq.out
    by_cases hc : C = 0
    · exact hc
    · rw [if_pos hc] at this; exact this
  subst hC0
  have HWO2 := Lib.hid (HWO.out rfl)
  have hcap : (walkV n id false d).length ≤ 200000000000 := by
    have h1 := valid_small (recE_zero HC1.out).1
    have := walkV_cap (id := id) (recE_zero HC1.out).2 h1.1 h1.2
    omega
  have HCAP := Lib.hid hcap
  have cA := rowc RA.out; have cB := rowc RB.out
  unfold eV
  clear hv HWO HIV hcap
  go_wp2_with fail
  refine (HWO2.out w7 HW.out).mono ?_; rintro e w8 ⟨v8, rfl, ho8, hb8⟩
  have HV8 := Lib.hid (IsVals.of_own ho8); have HV7 := Lib.hid (HV.out.below hb8 (Nat.le_refl _))
  replace HW := Lib.hid (HW.out.trans (hb8.mono HW.out.size))
  clear ho8 hb8 cA cB
  go_wp2_with fail
  refine (HSV.out w8 v7 v8 _ HV7.out HV8.out HCAP.out).mono ?_; rintro e w9 ⟨rfl, hb9⟩
  replace HW := Lib.hid (HW.out.trans (hb9.mono HW.out.size))
  have hs := (sameB_iff (walkV n id false d) (walkV n id false d)).2 rfl
  rw [hs]
  clear hb9
  go_wp2_with fail
  go_ret
  exact ⟨rfl, HW.out⟩
end Go.Proofs.YthfljcpfcnddhaaGreatDoor
