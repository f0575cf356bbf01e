/- The walk of the document's DatumError. Written by gen_dc3.py. -/
import Derived.Test.YthfljcpfcnddhaaGreatDoorDc2
import Derived.Deep.DeepCutAuto
namespace Go.Proofs.YthfljcpfcnddhaaGreatDoor
set_option linter.unusedVariables false
set_option linter.unusedSimpArgs false
open Go Go.RowKit Go.ChangeShapes

theorem val_cases (x : Val) : (x.k = 0 ∧ x.n = 0 ∧ x.s = ByteArray.empty ∧ hasV x = false) ∨ (¬ x.k = 0 ∧ hasV x = true) ∨ (x.k = 0 ∧ ¬ x.n = 0 ∧ hasV x = true) ∨ (x.k = 0 ∧ x.n = 0 ∧ ¬ x.s.toList = [] ∧ hasV x = true) := by
  unfold hasV valEq zeroV
  by_cases h1 : x.k = 0
  · by_cases h2 : x.n = 0
    · by_cases h3 : x.s = ByteArray.empty
      · exact .inl ⟨h1, h2, h3, by simp [h1, h2, h3]⟩
      · exact .inr (.inr (.inr ⟨h1, h2, fun h => h3 (toList_inj (by rw [h]; decide +kernel)), by simp [h1, h2, h3]⟩))
    · exact .inr (.inr (.inl ⟨h1, h2, by simp [h1, h2]⟩))
  · exact .inr (.inl ⟨h1, by simp [h1]⟩)
theorem datE_no {n : Nd} {one : Bool} {d : Dt} (h : d.no = true) (hr : one = true ∨ n.rep ≠ 2) : datE n one d = 3 := by
  rw [datE_eq, if_neg, if_pos h]
  rcases hr with rfl | hr
  · simp
  · simp [hr]
def ErrRet (k : Nat) (w : World) (e : Ending) (w' : World) : Prop := e = .returned (.int .i64 (k : Nat)) ∧ Below w.heap.size w w'

set_option maxRecDepth 100000 in
set_option maxHeartbeats 32000000 in
theorem datumErr_any : ∀ (d : Dt) (n : Nd) (u ul uf : Value) (one : Bool) (w : World), IsNds (· < w.heap.size) w u n.sub → (∀ x ∈ nodes n, x.Ok1) → (∀ x ∈ nodes n, okRep x) →
    IsDts (· < w.heap.size) w ul d.l → IsDts (· < w.heap.size) w uf d.f → (∀ x ∈ dts d, x.Ok1) →
    Calls Tryz.prog 35 #[.agg (ndA n u), .agg (dtA d ul uf), .bool one] w (ErrRet (datE n one d) w) := by
  apply Dt.ind
  intro d IHl IHf n u ul uf one w hN hO hR hl hf hD
  have hD0 := hD d (by rw [dts_eq]; exact List.mem_cons_self ..)
  have hR0 := hR n (by rw [nodes_eq]; exact List.mem_cons_self ..)
  have hDl : ∀ x ∈ dtsL d.l, x.Ok1 := fun x hx => hD x (by rw [dts_eq]; exact List.mem_cons_of_mem _ (List.mem_append_left _ hx))
  have hDf : ∀ x ∈ dtsL d.f, x.Ok1 := fun x hx => hD x (by rw [dts_eq]; exact List.mem_cons_of_mem _ (List.mem_append_right _ hx))
  have HIV := Lib.hid (fun (w1 : World) => isValue_any n.kind d.v hD0.v w1)
  have HIL := Lib.hid IHl; have HIF := Lib.hid IHf; have HN := Lib.hid hN; have HO := Lib.hid hO; have HR := Lib.hid hR; have HLl := Lib.hid hl; have HLf := Lib.hid hf; have HDl := Lib.hid hDl; have HDf := Lib.hid hDf
  have HLB := Lib.hid hD0.l; have HFB := Lib.hid hD0.f; have HR0 := Lib.hid hR0
  clear IHl IHf hN hO hR hDl hDf hD hD0 hR0
  obtain ⟨au, cu, rfl⟩ := HN.out.form
  obtain ⟨al, cl, rfl⟩ := hl.form
  obtain ⟨af, cf, rfl⟩ := hf.form
  clear hl hf
  obtain ⟨R, hRr⟩ : ∃ R, datE n one d = R := ⟨_, rfl⟩
  rw [hRr]
  have HRr := Lib.hid hRr
  clear hRr
  obtain ⟨ns, hns⟩ : ∃ ns, n.sub.length = ns := ⟨_, rfl⟩
  obtain ⟨nl, hnl⟩ : ∃ nl, d.l.length = nl := ⟨_, rfl⟩
  obtain ⟨nf, hnf⟩ : ∃ nf, d.f.length = nf := ⟨_, rfl⟩
  rw [hns] at HN; rw [hnl] at HLl HLB; rw [hnf] at HLf HFB
  rw [hns, hnl, hnf]
  have HNS := Lib.hid hns; have HNL := Lib.hid hnl; have HNF := Lib.hid hnf
  clear hns hnl hnf
  unfold ndA dtA valA at *
  obtain ⟨no, hno⟩ : ∃ no, d.no = no := ⟨_, rfl⟩
  rw [hno]
  have HNO := Lib.hid hno
  clear hno
  go_enter Tryz.func35, Tryz.ntmps35
  go_upto_region 1 with fail
  have hb0 := rows2 (w := w) (A := .cells #[.int .i64 n.id, .string n.name, .int .i64 n.rep, .int .i64 n.kind, .slice au ns cu] 24) (B := .cells #[.bool no, .int .i64 d.v.k, .int .i64 d.v.n, .string d.v.s, .slice al nl cl, .slice af nf cf] 29) (Below.refl _ _)
  generalize ((w.alloc (.cells #[.int .i64 n.id, .string n.name, .int .i64 n.rep, .int .i64 n.kind, .slice au ns cu] 24)).alloc (.cells #[.bool no, .int .i64 d.v.k, .int .i64 d.v.n, .string d.v.s, .slice al nl cl, .slice af nf cf] 29)) = w0 at *
  obtain ⟨rA, rB, hbw, -⟩ := hb0
  have HW := Lib.hid hbw; have RA := Lib.hid rA; have RB := Lib.hid rB
  clear rA rB hbw
  go_cut [7] (fun s7 wx => s7 = .bool (hasV d.v) ∧ Below w0.heap.size w0 wx)
  case first =>
    have cB := rowc RB.out
    rcases val_cases d.v with ⟨v1, v2, v3, hv⟩ | ⟨v1, hv⟩ | ⟨v1, v2, hv⟩ | ⟨v1, v2, v3, hv⟩
    case' inl =>
      have x1 := eq_true v1; have x2 := eq_true v2; have x3 := eq_true (show d.v.s.toList = [] by rw [v3]; decide +kernel)
      clear v1 v2 v3
    case' inr.inr.inl =>
      have x1 := eq_true v1
      clear v1
    case' inr.inr.inr =>
      have x1 := eq_true v1; have x2 := eq_true v2
      clear v1 v2
    all_goals
      have HV := Lib.hid hv
      clear hv
      go_wp2_with fail
      go_meet
      exact ⟨by rw [HV.out], Below.refl _ _⟩
  case rest =>
  obtain ⟨hs7, hb7⟩ := hcut
  subst hs7
  obtain ⟨w1, hw1⟩ : ∃ w1, w1 = wc := ⟨_, rfl⟩; subst hw1
  replace RA := Lib.hid (row_keep hb7 RA.out); replace RB := Lib.hid (row_keep hb7 RB.out); replace HW := Lib.hid (HW.out.trans (hb7.mono HW.out.size))
  clear hb7
  obtain ⟨hv, hhv⟩ : ∃ hv, hasV d.v = hv := ⟨_, rfl⟩
  rw [hhv]
  have HHV := Lib.hid hhv
  clear hhv
  have cA2 : w1.cell? ⟨w.heap.size, 2, none⟩ = some (.int .i64 n.rep) := rowc RA.out 2
  have cA3 : w1.cell? ⟨w.heap.size, 3, none⟩ = some (.int .i64 n.kind) := rowc RA.out 3
  have cA4 : w1.cell? ⟨w.heap.size, 4, none⟩ = some (.slice au ns cu) := rowc RA.out 4
  have cB := rowc RB.out
  have cB0 : w1.cell? ⟨w.heap.size + 1, 0, none⟩ = some (.bool no) := cB 0
  have cB4 : w1.cell? ⟨w.heap.size + 1, 4, none⟩ = some (.slice al nl cl) := cB 4
  have cB5 : w1.cell? ⟨w.heap.size + 1, 5, none⟩ = some (.slice af nf cf) := cB 5
  obtain ⟨el, hel⟩ : ∃ el, d.l.isEmpty = el := ⟨_, rfl⟩
  obtain ⟨ef, hef⟩ : ∃ ef, d.f.isEmpty = ef := ⟨_, rfl⟩
  have dl : decide (0 < nl) = !el := by rw [← hel, isEmpty_len, HNL.out]; by_cases h : nl = 0 <;> simp [h]; omega
  have df : decide (0 < nf) = !ef := by rw [← hef, isEmpty_len, HNF.out]; by_cases h : nf = 0 <;> simp [h]; omega
  have HEL := Lib.hid hel; have HEF := Lib.hid hef
  clear hel hef
  have h5 : one = true ∨ (one = false ∧ n.rep = 1) ∨ (one = false ∧ n.rep = 2) ∨ (one = false ∧ n.rep = 3) := by
    have h1 := HR0.out.1; have h2 := HR0.out.2
    cases one with
    | true => exact .inl rfl
    | false =>
      rcases (show n.rep = 1 ∨ n.rep = 2 ∨ n.rep = 3 by omega) with h | h | h
      · exact .inr (.inl ⟨rfl, h⟩)
      · exact .inr (.inr (.inl ⟨rfl, h⟩))
      · exact .inr (.inr (.inr ⟨rfl, h⟩))
  rcases h5 with rfl | ⟨rfl, hr⟩ | ⟨rfl, hr⟩ | ⟨rfl, hr⟩
  · cases no with
    | true =>
    obtain rfl : R = 3 := by rw [← HRr.out]; exact datE_no HNO.out (.inl rfl)
    go_wp2_with fail
    go_ret
    exact ⟨rfl, HW.out⟩
    | false =>
    have HLON := Lib.hid (show lonely n true d from .inl rfl)
    by_cases hk0 : n.kind = 0
    case neg =>
      have dk : ((n.kind : Int) != 0) = true := by simpa using hk0
      have hEq := datE_leaf HLON.out hk0
      unfold bareB at hEq
      rw [HRr.out, HNO.out, HEL.out, HEF.out] at hEq
      have hkv : isV n.kind d.v = okB n.kind d.v := by
        have h1 := HR0.out.2.2.1; have h2 := HR0.out.2.2.2
        unfold isV; rw [decide_eq_true (by omega), Bool.true_and]
      obtain ⟨ob, hob⟩ : ∃ ob, okB n.kind d.v = ob := ⟨_, rfl⟩
      rw [hob] at hEq hkv
      rw [hkv] at HIV
      have HEq := Lib.hid hEq
      clear hEq hob hkv hk0
      cases el with
      | false =>
        obtain rfl : R = 3 := by have := HEq.out; simpa using this
        simp only [Bool.not_true, Bool.not_false] at dl df
        go_wp2_with fail
        go_ret
        exact ⟨rfl, HW.out⟩
      | true =>
      simp only [Bool.not_true] at dl
      cases ef with
      | false =>
        obtain rfl : R = 3 := by have := HEq.out; simpa using this
        simp only [Bool.not_false] at df
        go_wp2_with fail
        go_ret
        exact ⟨rfl, HW.out⟩
      | true =>
      simp only [Bool.not_true] at df
      go_wp2_with fail
      refine (HIV.out w1).mono ?_; rintro e w3 ⟨rfl, hb3⟩
      replace HW := Lib.hid (HW.out.trans (hb3.mono HW.out.size))
      clear hb3 cA2 cA3 cA4 cB cB0 cB4 cB5
      cases ob with
      | false =>
        obtain rfl : R = 4 := by have := HEq.out; simpa using this
        go_wp2_with fail
        go_ret
        exact ⟨rfl, HW.out⟩
      | true =>
        obtain rfl : R = 0 := by have := HEq.out; simpa using this
        go_wp2_with fail
        go_ret
        exact ⟨rfl, HW.out⟩
    have dk : ((n.kind : Int) != 0) = false := by simpa using hk0
    have hEq := datE_group HLON.out hk0
    unfold bareB at hEq
    rw [HRr.out, HNF.out, HNS.out, HNO.out, HEL.out, HHV.out] at hEq
    have HEq := Lib.hid hEq
    clear hEq hk0
    cases el with
    | false =>
      obtain rfl : R = 3 := by have := HEq.out; simpa using this
      simp only [Bool.not_false] at dl
      go_wp2_with fail
      go_ret
      exact ⟨rfl, HW.out⟩
    | true =>
    simp only [Bool.not_true] at dl
    cases hv with
    | true =>
      obtain rfl : R = 3 := by have := HEq.out; simpa using this
      go_wp2_with fail
      go_ret
      exact ⟨rfl, HW.out⟩
    | false =>
    have hEq := HEq.out
    rw [if_pos (by simp)] at hEq
    clear HEq
    by_cases hlen : nf = ns
    case neg =>
      rw [if_neg hlen] at hEq
      subst hEq
      have dn : ((nf : Int) != (ns : Int)) = true := by rw [bne_iff_ne]; omega
      clear hlen
      go_wp2_with fail
      go_ret
      exact ⟨rfl, HW.out⟩
    subst hlen
    rw [if_pos rfl] at hEq
    have HEq := Lib.hid hEq
    have dn : ((nf : Int) != (nf : Int)) = false := by simp
    clear hEq df
    go_wp2_with fail
    clear cA2 cA3 cA4 cB cB0 cB4 cB5
    go_loopw [12] (fun i wr => ∃ k : Nat, k ≤ nf ∧ i = .int .i64 (k : Nat) ∧ Hid (∀ (j : Nat) m y, j < k → n.sub[j]? = some m → d.f[j]? = some y → datE m false y = 0) ∧ Hid (Below w1.heap.size w1 wr)) (fun i _ => nf - (intOf i).toNat)
    case atStart => exact ⟨0, Nat.zero_le _, rfl, fun j m y hj => absurd hj (Nat.not_lt_zero _), Below.refl _ _⟩
    case round =>
      obtain ⟨k, hk, rfl, HD, HBr⟩ := hrel
      have RBr := Lib.hid (row_keep HBr.out RB.out); have RAr := Lib.hid (row_keep HBr.out RA.out)
      have cB5 : wr.cell? ⟨w.heap.size + 1, 5, none⟩ = some (.slice af nf cf) := rowc RBr.out 5
      by_cases hlt : k < nf
      case neg =>
        obtain rfl : k = nf := Nat.le_antisymm hk (Nat.le_of_not_lt hlt)
        have hz : R = 0 := HEq.out.trans (datEF_all n.sub d.f fun j m y hm hy => HD.out j m y (by rw [← HNF.out]; exact (List.getElem?_eq_some_iff.1 hy).1) hm hy)
        subst hz
        have dk2 : decide (k < k) = false := by simp
        clear hlt hk
        go_wp2_with fail
        go_ret
        exact ⟨rfl, HW.out.trans (HBr.out.mono HW.out.size)⟩
      obtain ⟨x, hx⟩ : ∃ x, d.f[k]? = some x := ⟨_, List.getElem?_eq_getElem (by rw [HNF.out]; exact hlt)⟩
      obtain ⟨y, hy⟩ : ∃ y, n.sub[k]? = some y := ⟨_, List.getElem?_eq_getElem (by rw [HNS.out]; exact hlt)⟩
      have hxm : x ∈ d.f := List.mem_of_getElem? hx
      have hym : y ∈ n.sub := List.mem_of_getElem? hy
      have hbw := HW.out.trans (HBr.out.mono HW.out.size)
      obtain ⟨b1, off1, h17, hPb1, hb1, hat1⟩ := (HLf.out.under hbw).at (by rw [HNF.out]; omega)
      subst h17
      obtain ⟨xu, xt, hcx, hu, ht⟩ := hat1 k x hx
      obtain ⟨b0, off0, h18, hPb0, hb0, hat0⟩ := (HN.out.under hbw).at (by rw [HNS.out]; omega)
      subst h18
      obtain ⟨yu, hcy, hny⟩ := hat0 k y hy
      obtain ⟨xau, xcu, rfl⟩ := hu.form
      obtain ⟨xaf, xcf, rfl⟩ := ht.form
      obtain ⟨yau, ycu, rfl⟩ := hny.form
      have hI := HIF.out x hxm y (.slice yau y.sub.length ycu)
      unfold DtAt dtA at hcx
      unfold NdAt ndA at hcy
      have HCX := Lib.hid hcx; have HCY := Lib.hid hcy; have HI := Lib.hid hI; have HU := Lib.hid hu; have HT := Lib.hid ht; have HNY := Lib.hid hny; have HX := Lib.hid hx; have HY := Lib.hid hy; have HXM := Lib.hid hxm; have HYM := Lib.hid hym
      have Hlt := Lib.hid hlt; have HBW := Lib.hid hbw
      have hin : (k : Int) < (nf : Int) := Int.ofNat_lt.2 hlt
      have dk2 : decide (k < nf) = true := decide_eq_true hlt
      clear hx hy hxm hym hbw hat0 hat1 hcx hcy hu ht hny hI hlt hk hPb0 hPb1 hb0 hb1
      go_upto_region 37 with fail
      clear cB5
      have hbx := (Below.refl wr.heap.size wr).drew
      have hbw3 := HBW.out.trans (hbx.mono HBW.out.size)
      have hcl := HI.out (.slice xau x.l.length xcu) (.slice xaf x.f.length xcf) false wr.drew ((HNY.out.under (hbx.mono HBW.out.size)).mono fun b hb _ => Nat.lt_of_lt_of_le hb hbw3.size) (fun z hz => HO.out z (by rw [nodes_eq]; exact List.mem_cons_of_mem _ (nodesL_mem HYM.out hz))) (fun z hz => HR.out z (by rw [nodes_eq]; exact List.mem_cons_of_mem _ (nodesL_mem HYM.out hz))) ((HU.out.under (hbx.mono HBW.out.size)).mono fun b hb _ => Nat.lt_of_lt_of_le hb hbw3.size) ((HT.out.under (hbx.mono HBW.out.size)).mono fun b hb _ => Nat.lt_of_lt_of_le hb hbw3.size) (fun z hz => HDf.out z (dtsL_mem HXM.out hz))
      refine AnyE.region (S := fun w' => w'.cell? ⟨w.heap.size, 4, none⟩ = some (.slice (some ⟨b0, off0, none⟩) nf cu) ∧ w'.cell? ⟨w.heap.size + 1, 5, none⟩ = some (.slice (some ⟨b1, off1, none⟩) nf cf) ∧ (∀ (j : Nat) (v : Value), (#[.int .i64 y.id, .string y.name, .int .i64 y.rep, .int .i64 y.kind, .slice yau y.sub.length ycu] : Array Value)[j]? = some v → w'.cell? ⟨b0, off0 + k * 5 + j, none⟩ = some v) ∧ (∀ (j : Nat) (v : Value), (#[.bool x.no, .int .i64 x.v.k, .int .i64 x.v.n, .string x.v.s, .slice xau x.l.length xcu, .slice xaf x.f.length xcf] : Array Value)[j]? = some v → w'.cell? ⟨b1, off1 + k * 6 + j, none⟩ = some v)) (E := []) (by kernel_rfl) ?_
      replace RBr := Lib.hid (row_keep hbx RBr.out); replace RAr := Lib.hid (row_keep hbx RAr.out); replace HBr := Lib.hid (HBr.out.trans (hbx.mono HBr.out.size))
      have hS := (⟨rowc RAr.out 4, rowc RBr.out 5, fun j v hj => (hbx.cell (p := ⟨b0, off0 + k * 5 + j, none⟩) (block_lt_of_cell (HCY.out j v hj))).trans (HCY.out j v hj), fun j v hj => (hbx.cell (p := ⟨b1, off1 + k * 6 + j, none⟩) (block_lt_of_cell (HCX.out j v hj))).trans (HCX.out j v hj)⟩ : (fun w' => w'.cell? ⟨w.heap.size, 4, none⟩ = some (.slice (some ⟨b0, off0, none⟩) nf cu) ∧ w'.cell? ⟨w.heap.size + 1, 5, none⟩ = some (.slice (some ⟨b1, off1, none⟩) nf cf) ∧ (∀ (j : Nat) (v : Value), (#[.int .i64 y.id, .string y.name, .int .i64 y.rep, .int .i64 y.kind, .slice yau y.sub.length ycu] : Array Value)[j]? = some v → w'.cell? ⟨b0, off0 + k * 5 + j, none⟩ = some v) ∧ (∀ (j : Nat) (v : Value), (#[.bool x.no, .int .i64 x.v.k, .int .i64 x.v.n, .string x.v.s, .slice xau x.l.length xcu, .slice xaf x.f.length xcf] : Array Value)[j]? = some v → w'.cell? ⟨b1, off1 + k * 6 + j, none⟩ = some v)) wr.drew)
      have HCL := Lib.hid hcl
      clear hbx hbw3 hcl
      generalize wr.drew = wd at *
      refine AnyE.take (i := 0) (v := ?_) rfl (by kernel_rfl) (by kernel_rfl) (by kernel_rfl) (by kernel_rfl) (by kernel_rfl) (fun _ _ _ h => h) (Or.inl ⟨by rfl, ?_⟩) hS ?_
      rotate_left
      focus (intro wq hSq; obtain ⟨hS1, hS2, hS3, hS4⟩ := hSq; go_simp; with_reducible rfl)
      try simp only [Act.put, List.getElem_toArray, List.getElem_cons_succ, List.getElem_cons_zero, List.setIfInBounds_toArray, List.set_cons_zero, List.set_cons_succ]
      refine AnyE.take (i := 1) (v := ?_) rfl (by kernel_rfl) (by kernel_rfl) (by kernel_rfl) (by kernel_rfl) (by kernel_rfl) (fun _ _ _ h => h) (Or.inl ⟨by rfl, ?_⟩) hS ?_
      rotate_left
      focus (intro wq hSq; obtain ⟨hS1, hS2, hS3, hS4⟩ := hSq; go_simp; with_reducible rfl)
      try simp only [Act.put, List.getElem_toArray, List.getElem_cons_succ, List.getElem_cons_zero, List.setIfInBounds_toArray, List.set_cons_zero, List.set_cons_succ]
      refine AnyE.take (i := 2) (v := ?_) rfl (by kernel_rfl) (by kernel_rfl) (by kernel_rfl) (by kernel_rfl) (by kernel_rfl) (fun _ _ _ h => h) (Or.inl ⟨by rfl, ?_⟩) hS ?_
      rotate_left
      focus (intro wq hSq; obtain ⟨hS1, hS2, hS3, hS4⟩ := hSq; go_simp; with_reducible rfl)
      try simp only [Act.put, List.getElem_toArray, List.getElem_cons_succ, List.getElem_cons_zero, List.setIfInBounds_toArray, List.set_cons_zero, List.set_cons_succ]
      refine AnyE.take (i := 3) (v := ?_) rfl (by kernel_rfl) (by kernel_rfl) (by kernel_rfl) (by kernel_rfl) (by kernel_rfl) (fun _ _ _ h => h) (Or.inl ⟨by rfl, ?_⟩) hS ?_
      rotate_left
      focus (intro wq hSq; obtain ⟨hS1, hS2, hS3, hS4⟩ := hSq; go_simp; with_reducible rfl)
      try simp only [Act.put, List.getElem_toArray, List.getElem_cons_succ, List.getElem_cons_zero, List.setIfInBounds_toArray, List.set_cons_zero, List.set_cons_succ]
      refine AnyE.take (i := 4) (v := .agg #[.int .i64 y.id, .string y.name, .int .i64 y.rep, .int .i64 y.kind, .slice yau y.sub.length ycu]) rfl (by kernel_rfl) (by kernel_rfl) (by kernel_rfl) (by kernel_rfl) (by kernel_rfl) (fun _ _ _ h => h) (yields_load 24 _ rfl rfl b0 (off0 + k * 5) rfl #[.int .i64 y.id, .string y.name, .int .i64 y.rep, .int .i64 y.kind, .slice yau y.sub.length ycu] _ (fun w h => h.2.2.1) Tryz.underlying24 rfl (by kernel_rfl)) hS ?_
      try simp only [Act.put, List.getElem_toArray, List.getElem_cons_succ, List.getElem_cons_zero, List.setIfInBounds_toArray, List.set_cons_zero, List.set_cons_succ]
      refine AnyE.take (i := 5) (v := ?_) rfl (by kernel_rfl) (by kernel_rfl) (by kernel_rfl) (by kernel_rfl) (by kernel_rfl) (fun _ _ _ h => h) (Or.inl ⟨by rfl, ?_⟩) hS ?_
      rotate_left
      focus (intro wq hSq; obtain ⟨hS1, hS2, hS3, hS4⟩ := hSq; go_simp; with_reducible rfl)
      try simp only [Act.put, List.getElem_toArray, List.getElem_cons_succ, List.getElem_cons_zero, List.setIfInBounds_toArray, List.set_cons_zero, List.set_cons_succ]
      refine AnyE.take (i := 6) (v := ?_) rfl (by kernel_rfl) (by kernel_rfl) (by kernel_rfl) (by kernel_rfl) (by kernel_rfl) (fun _ _ _ h => h) (Or.inl ⟨by rfl, ?_⟩) hS ?_
      rotate_left
      focus (intro wq hSq; obtain ⟨hS1, hS2, hS3, hS4⟩ := hSq; go_simp; with_reducible rfl)
      try simp only [Act.put, List.getElem_toArray, List.getElem_cons_succ, List.getElem_cons_zero, List.setIfInBounds_toArray, List.set_cons_zero, List.set_cons_succ]
      refine AnyE.take (i := 7) (v := ?_) rfl (by kernel_rfl) (by kernel_rfl) (by kernel_rfl) (by kernel_rfl) (by kernel_rfl) (fun _ _ _ h => h) (Or.inl ⟨by rfl, ?_⟩) hS ?_
      rotate_left
      focus (intro wq hSq; obtain ⟨hS1, hS2, hS3, hS4⟩ := hSq; go_simp; with_reducible rfl)
      try simp only [Act.put, List.getElem_toArray, List.getElem_cons_succ, List.getElem_cons_zero, List.setIfInBounds_toArray, List.set_cons_zero, List.set_cons_succ]
      refine AnyE.take (i := 8) (v := ?_) rfl (by kernel_rfl) (by kernel_rfl) (by kernel_rfl) (by kernel_rfl) (by kernel_rfl) (fun _ _ _ h => h) (Or.inl ⟨by rfl, ?_⟩) hS ?_
      rotate_left
      focus (intro wq hSq; obtain ⟨hS1, hS2, hS3, hS4⟩ := hSq; go_simp; with_reducible rfl)
      try simp only [Act.put, List.getElem_toArray, List.getElem_cons_succ, List.getElem_cons_zero, List.setIfInBounds_toArray, List.set_cons_zero, List.set_cons_succ]
      refine AnyE.take (i := 9) (v := .agg #[.bool x.no, .int .i64 x.v.k, .int .i64 x.v.n, .string x.v.s, .slice xau x.l.length xcu, .slice xaf x.f.length xcf]) rfl (by kernel_rfl) (by kernel_rfl) (by kernel_rfl) (by kernel_rfl) (by kernel_rfl) (fun _ _ _ h => h) (yields_load 29 _ rfl rfl b1 (off1 + k * 6) rfl #[.bool x.no, .int .i64 x.v.k, .int .i64 x.v.n, .string x.v.s, .slice xau x.l.length xcu, .slice xaf x.f.length xcf] _ (fun w h => h.2.2.2) Tryz.underlying29 rfl (by kernel_rfl)) hS ?_
      try simp only [Act.put, List.getElem_toArray, List.getElem_cons_succ, List.getElem_cons_zero, List.setIfInBounds_toArray, List.set_cons_zero, List.set_cons_succ]
      refine AnyE.one (i := 10) (by kernel_rfl) rfl rfl ?_
      intro K hK
      simp only [List.getElem_toArray, List.getElem_cons_succ, List.getElem_cons_zero]
      go_simp
      refine HCL.out.mono ?_; rintro e w4 ⟨rfl, hb4⟩
      replace HBr := Lib.hid (HBr.out.trans (hb4.mono HBr.out.size))
      have hS9 := (⟨rowc (row_keep hb4 RAr.out) 4, rowc (row_keep hb4 RBr.out) 5, fun j v hj => (hb4.cell (p := ⟨b0, off0 + k * 5 + j, none⟩) (block_lt_of_cell (hS.2.2.1 j v hj))).trans (hS.2.2.1 j v hj), fun j v hj => (hb4.cell (p := ⟨b1, off1 + k * 6 + j, none⟩) (block_lt_of_cell (hS.2.2.2 j v hj))).trans (hS.2.2.2 j v hj)⟩ : (fun w' => w'.cell? ⟨w.heap.size, 4, none⟩ = some (.slice (some ⟨b0, off0, none⟩) nf cu) ∧ w'.cell? ⟨w.heap.size + 1, 5, none⟩ = some (.slice (some ⟨b1, off1, none⟩) nf cf) ∧ (∀ (j : Nat) (v : Value), (#[.int .i64 y.id, .string y.name, .int .i64 y.rep, .int .i64 y.kind, .slice yau y.sub.length ycu] : Array Value)[j]? = some v → w'.cell? ⟨b0, off0 + k * 5 + j, none⟩ = some v) ∧ (∀ (j : Nat) (v : Value), (#[.bool x.no, .int .i64 x.v.k, .int .i64 x.v.n, .string x.v.s, .slice xau x.l.length xcu, .slice xaf x.f.length xcf] : Array Value)[j]? = some v → w'.cell? ⟨b1, off1 + k * 6 + j, none⟩ = some v)) w4)
      refine hK _ _ (fun _ => hS9) ?_
      clear hK K hS
      have hS := hS9
      clear hS9
      clear hb4 HCL
      try simp only [Act.put, List.getElem_toArray, List.getElem_cons_succ, List.getElem_cons_zero, List.setIfInBounds_toArray, List.set_cons_zero, List.set_cons_succ]
      refine AnyE.take (i := 11) (v := ?_) rfl (by kernel_rfl) (by kernel_rfl) (by kernel_rfl) (by kernel_rfl) (by kernel_rfl) (fun _ _ _ h => h) (Or.inl ⟨by rfl, ?_⟩) hS ?_
      rotate_left
      focus (intro wq hSq; obtain ⟨hS1, hS2, hS3, hS4⟩ := hSq; go_simp; with_reducible rfl)
      try simp only [Act.put, List.getElem_toArray, List.getElem_cons_succ, List.getElem_cons_zero, List.setIfInBounds_toArray, List.set_cons_zero, List.set_cons_succ]
      refine AnyE.done (by kernel_rfl) ?_ _
      clear hS
      obtain ⟨rx, hrx⟩ : ∃ rx, datE y false x = rx := ⟨_, rfl⟩
      rw [hrx]
      have HRX := Lib.hid hrx
      clear hrx
      by_cases h0 : rx = 0
      case pos =>
        have HD2 := Lib.hid (show ∀ (j : Nat) m z, j < k + 1 → n.sub[j]? = some m → d.f[j]? = some z → datE m false z = 0 from fun j m z hj hm hz => by
          rcases Nat.lt_succ_iff_lt_or_eq.1 hj with h | h
          · exact HD.out j m z h hm hz
          · subst h; rw [HX.out] at hz; rw [HY.out] at hm; injection hz with hz; injection hm with hm; rw [← hz, ← hm, HRX.out]; exact h0)
        subst h0
        have hfb := HFB.out
        have hlb := HLB.out
        go_wp2_with fail
        go_roundw
        case rel => exact ⟨k + 1, Hlt.out, by go_num, HD2.out, HBr.out⟩
        case measure => have := Hlt.out; simp [intOf]; omega
      case neg =>
        have hz : R = rx := HEq.out.trans ((datEF_take n.sub d.f k y x HY.out HX.out HD.out (by rw [HRX.out]; exact h0)).trans HRX.out)
        subst hz
        have dr : decide (0 < R) = true := decide_eq_true (Nat.pos_of_ne_zero h0)
        clear h0
        go_wp2_with fail
        go_ret
        exact ⟨rfl, HW.out.trans (HBr.out.mono HW.out.size)⟩
  · have d2 : ((n.rep : Int) == 2) = false := by rw [hr]; rfl
    have d3 : ((n.rep : Int) == 3) = false := by rw [hr]; rfl
    have HRP := Lib.hid hr
    clear hr
    cases no with
    | true =>
    obtain rfl : R = 3 := by rw [← HRr.out]; exact datE_no HNO.out (.inr (by rw [HRP.out]; decide))
    go_wp2_with fail
    go_ret
    exact ⟨rfl, HW.out⟩
    | false =>
    have HLON := Lib.hid (show lonely n false d from .inr (.inl HRP.out))
    by_cases hk0 : n.kind = 0
    case neg =>
      have dk : ((n.kind : Int) != 0) = true := by simpa using hk0
      have hEq := datE_leaf HLON.out hk0
      unfold bareB at hEq
      rw [HRr.out, HNO.out, HEL.out, HEF.out] at hEq
      have hkv : isV n.kind d.v = okB n.kind d.v := by
        have h1 := HR0.out.2.2.1; have h2 := HR0.out.2.2.2
        unfold isV; rw [decide_eq_true (by omega), Bool.true_and]
      obtain ⟨ob, hob⟩ : ∃ ob, okB n.kind d.v = ob := ⟨_, rfl⟩
      rw [hob] at hEq hkv
      rw [hkv] at HIV
      have HEq := Lib.hid hEq
      clear hEq hob hkv hk0
      cases el with
      | false =>
        obtain rfl : R = 3 := by have := HEq.out; simpa using this
        simp only [Bool.not_true, Bool.not_false] at dl df
        go_wp2_with fail
        go_ret
        exact ⟨rfl, HW.out⟩
      | true =>
      simp only [Bool.not_true] at dl
      cases ef with
      | false =>
        obtain rfl : R = 3 := by have := HEq.out; simpa using this
        simp only [Bool.not_false] at df
        go_wp2_with fail
        go_ret
        exact ⟨rfl, HW.out⟩
      | true =>
      simp only [Bool.not_true] at df
      go_wp2_with fail
      refine (HIV.out w1).mono ?_; rintro e w3 ⟨rfl, hb3⟩
      replace HW := Lib.hid (HW.out.trans (hb3.mono HW.out.size))
      clear hb3 cA2 cA3 cA4 cB cB0 cB4 cB5
      cases ob with
      | false =>
        obtain rfl : R = 4 := by have := HEq.out; simpa using this
        go_wp2_with fail
        go_ret
        exact ⟨rfl, HW.out⟩
      | true =>
        obtain rfl : R = 0 := by have := HEq.out; simpa using this
        go_wp2_with fail
        go_ret
        exact ⟨rfl, HW.out⟩
    have dk : ((n.kind : Int) != 0) = false := by simpa using hk0
    have hEq := datE_group HLON.out hk0
    unfold bareB at hEq
    rw [HRr.out, HNF.out, HNS.out, HNO.out, HEL.out, HHV.out] at hEq
    have HEq := Lib.hid hEq
    clear hEq hk0
    cases el with
    | false =>
      obtain rfl : R = 3 := by have := HEq.out; simpa using this
      simp only [Bool.not_false] at dl
      go_wp2_with fail
      go_ret
      exact ⟨rfl, HW.out⟩
    | true =>
    simp only [Bool.not_true] at dl
    cases hv with
    | true =>
      obtain rfl : R = 3 := by have := HEq.out; simpa using this
      go_wp2_with fail
      go_ret
      exact ⟨rfl, HW.out⟩
    | false =>
    have hEq := HEq.out
    rw [if_pos (by simp)] at hEq
    clear HEq
    by_cases hlen : nf = ns
    case neg =>
      rw [if_neg hlen] at hEq
      subst hEq
      have dn : ((nf : Int) != (ns : Int)) = true := by rw [bne_iff_ne]; omega
      clear hlen
      go_wp2_with fail
      go_ret
      exact ⟨rfl, HW.out⟩
    subst hlen
    rw [if_pos rfl] at hEq
    have HEq := Lib.hid hEq
    have dn : ((nf : Int) != (nf : Int)) = false := by simp
    clear hEq df
    go_wp2_with fail
    clear cA2 cA3 cA4 cB cB0 cB4 cB5
    go_loopw [12] (fun i wr => ∃ k : Nat, k ≤ nf ∧ i = .int .i64 (k : Nat) ∧ Hid (∀ (j : Nat) m y, j < k → n.sub[j]? = some m → d.f[j]? = some y → datE m false y = 0) ∧ Hid (Below w1.heap.size w1 wr)) (fun i _ => nf - (intOf i).toNat)
    case atStart => exact ⟨0, Nat.zero_le _, rfl, fun j m y hj => absurd hj (Nat.not_lt_zero _), Below.refl _ _⟩
    case round =>
      obtain ⟨k, hk, rfl, HD, HBr⟩ := hrel
      have RBr := Lib.hid (row_keep HBr.out RB.out); have RAr := Lib.hid (row_keep HBr.out RA.out)
      have cB5 : wr.cell? ⟨w.heap.size + 1, 5, none⟩ = some (.slice af nf cf) := rowc RBr.out 5
      by_cases hlt : k < nf
      case neg =>
        obtain rfl : k = nf := Nat.le_antisymm hk (Nat.le_of_not_lt hlt)
        have hz : R = 0 := HEq.out.trans (datEF_all n.sub d.f fun j m y hm hy => HD.out j m y (by rw [← HNF.out]; exact (List.getElem?_eq_some_iff.1 hy).1) hm hy)
        subst hz
        have dk2 : decide (k < k) = false := by simp
        clear hlt hk
        go_wp2_with fail
        go_ret
        exact ⟨rfl, HW.out.trans (HBr.out.mono HW.out.size)⟩
      obtain ⟨x, hx⟩ : ∃ x, d.f[k]? = some x := ⟨_, List.getElem?_eq_getElem (by rw [HNF.out]; exact hlt)⟩
      obtain ⟨y, hy⟩ : ∃ y, n.sub[k]? = some y := ⟨_, List.getElem?_eq_getElem (by rw [HNS.out]; exact hlt)⟩
      have hxm : x ∈ d.f := List.mem_of_getElem? hx
      have hym : y ∈ n.sub := List.mem_of_getElem? hy
      have hbw := HW.out.trans (HBr.out.mono HW.out.size)
      obtain ⟨b1, off1, h17, hPb1, hb1, hat1⟩ := (HLf.out.under hbw).at (by rw [HNF.out]; omega)
      subst h17
      obtain ⟨xu, xt, hcx, hu, ht⟩ := hat1 k x hx
      obtain ⟨b0, off0, h18, hPb0, hb0, hat0⟩ := (HN.out.under hbw).at (by rw [HNS.out]; omega)
      subst h18
      obtain ⟨yu, hcy, hny⟩ := hat0 k y hy
      obtain ⟨xau, xcu, rfl⟩ := hu.form
      obtain ⟨xaf, xcf, rfl⟩ := ht.form
      obtain ⟨yau, ycu, rfl⟩ := hny.form
      have hI := HIF.out x hxm y (.slice yau y.sub.length ycu)
      unfold DtAt dtA at hcx
      unfold NdAt ndA at hcy
      have HCX := Lib.hid hcx; have HCY := Lib.hid hcy; have HI := Lib.hid hI; have HU := Lib.hid hu; have HT := Lib.hid ht; have HNY := Lib.hid hny; have HX := Lib.hid hx; have HY := Lib.hid hy; have HXM := Lib.hid hxm; have HYM := Lib.hid hym
      have Hlt := Lib.hid hlt; have HBW := Lib.hid hbw
      have hin : (k : Int) < (nf : Int) := Int.ofNat_lt.2 hlt
      have dk2 : decide (k < nf) = true := decide_eq_true hlt
      clear hx hy hxm hym hbw hat0 hat1 hcx hcy hu ht hny hI hlt hk hPb0 hPb1 hb0 hb1
      go_upto_region 37 with fail
      clear cB5
      have hbx := (Below.refl wr.heap.size wr).drew
      have hbw3 := HBW.out.trans (hbx.mono HBW.out.size)
      have hcl := HI.out (.slice xau x.l.length xcu) (.slice xaf x.f.length xcf) false wr.drew ((HNY.out.under (hbx.mono HBW.out.size)).mono fun b hb _ => Nat.lt_of_lt_of_le hb hbw3.size) (fun z hz => HO.out z (by rw [nodes_eq]; exact List.mem_cons_of_mem _ (nodesL_mem HYM.out hz))) (fun z hz => HR.out z (by rw [nodes_eq]; exact List.mem_cons_of_mem _ (nodesL_mem HYM.out hz))) ((HU.out.under (hbx.mono HBW.out.size)).mono fun b hb _ => Nat.lt_of_lt_of_le hb hbw3.size) ((HT.out.under (hbx.mono HBW.out.size)).mono fun b hb _ => Nat.lt_of_lt_of_le hb hbw3.size) (fun z hz => HDf.out z (dtsL_mem HXM.out hz))
      refine AnyE.region (S := fun w' => w'.cell? ⟨w.heap.size, 4, none⟩ = some (.slice (some ⟨b0, off0, none⟩) nf cu) ∧ w'.cell? ⟨w.heap.size + 1, 5, none⟩ = some (.slice (some ⟨b1, off1, none⟩) nf cf) ∧ (∀ (j : Nat) (v : Value), (#[.int .i64 y.id, .string y.name, .int .i64 y.rep, .int .i64 y.kind, .slice yau y.sub.length ycu] : Array Value)[j]? = some v → w'.cell? ⟨b0, off0 + k * 5 + j, none⟩ = some v) ∧ (∀ (j : Nat) (v : Value), (#[.bool x.no, .int .i64 x.v.k, .int .i64 x.v.n, .string x.v.s, .slice xau x.l.length xcu, .slice xaf x.f.length xcf] : Array Value)[j]? = some v → w'.cell? ⟨b1, off1 + k * 6 + j, none⟩ = some v)) (E := []) (by kernel_rfl) ?_
      replace RBr := Lib.hid (row_keep hbx RBr.out); replace RAr := Lib.hid (row_keep hbx RAr.out); replace HBr := Lib.hid (HBr.out.trans (hbx.mono HBr.out.size))
      have hS := (⟨rowc RAr.out 4, rowc RBr.out 5, fun j v hj => (hbx.cell (p := ⟨b0, off0 + k * 5 + j, none⟩) (block_lt_of_cell (HCY.out j v hj))).trans (HCY.out j v hj), fun j v hj => (hbx.cell (p := ⟨b1, off1 + k * 6 + j, none⟩) (block_lt_of_cell (HCX.out j v hj))).trans (HCX.out j v hj)⟩ : (fun w' => w'.cell? ⟨w.heap.size, 4, none⟩ = some (.slice (some ⟨b0, off0, none⟩) nf cu) ∧ w'.cell? ⟨w.heap.size + 1, 5, none⟩ = some (.slice (some ⟨b1, off1, none⟩) nf cf) ∧ (∀ (j : Nat) (v : Value), (#[.int .i64 y.id, .string y.name, .int .i64 y.rep, .int .i64 y.kind, .slice yau y.sub.length ycu] : Array Value)[j]? = some v → w'.cell? ⟨b0, off0 + k * 5 + j, none⟩ = some v) ∧ (∀ (j : Nat) (v : Value), (#[.bool x.no, .int .i64 x.v.k, .int .i64 x.v.n, .string x.v.s, .slice xau x.l.length xcu, .slice xaf x.f.length xcf] : Array Value)[j]? = some v → w'.cell? ⟨b1, off1 + k * 6 + j, none⟩ = some v)) wr.drew)
      have HCL := Lib.hid hcl
      clear hbx hbw3 hcl
      generalize wr.drew = wd at *
      refine AnyE.take (i := 0) (v := ?_) rfl (by kernel_rfl) (by kernel_rfl) (by kernel_rfl) (by kernel_rfl) (by kernel_rfl) (fun _ _ _ h => h) (Or.inl ⟨by rfl, ?_⟩) hS ?_
      rotate_left
      focus (intro wq hSq; obtain ⟨hS1, hS2, hS3, hS4⟩ := hSq; go_simp; with_reducible rfl)
      try simp only [Act.put, List.getElem_toArray, List.getElem_cons_succ, List.getElem_cons_zero, List.setIfInBounds_toArray, List.set_cons_zero, List.set_cons_succ]
      refine AnyE.take (i := 1) (v := ?_) rfl (by kernel_rfl) (by kernel_rfl) (by kernel_rfl) (by kernel_rfl) (by kernel_rfl) (fun _ _ _ h => h) (Or.inl ⟨by rfl, ?_⟩) hS ?_
      rotate_left
      focus (intro wq hSq; obtain ⟨hS1, hS2, hS3, hS4⟩ := hSq; go_simp; with_reducible rfl)
      try simp only [Act.put, List.getElem_toArray, List.getElem_cons_succ, List.getElem_cons_zero, List.setIfInBounds_toArray, List.set_cons_zero, List.set_cons_succ]
      refine AnyE.take (i := 2) (v := ?_) rfl (by kernel_rfl) (by kernel_rfl) (by kernel_rfl) (by kernel_rfl) (by kernel_rfl) (fun _ _ _ h => h) (Or.inl ⟨by rfl, ?_⟩) hS ?_
      rotate_left
      focus (intro wq hSq; obtain ⟨hS1, hS2, hS3, hS4⟩ := hSq; go_simp; with_reducible rfl)
      try simp only [Act.put, List.getElem_toArray, List.getElem_cons_succ, List.getElem_cons_zero, List.setIfInBounds_toArray, List.set_cons_zero, List.set_cons_succ]
      refine AnyE.take (i := 3) (v := ?_) rfl (by kernel_rfl) (by kernel_rfl) (by kernel_rfl) (by kernel_rfl) (by kernel_rfl) (fun _ _ _ h => h) (Or.inl ⟨by rfl, ?_⟩) hS ?_
      rotate_left
      focus (intro wq hSq; obtain ⟨hS1, hS2, hS3, hS4⟩ := hSq; go_simp; with_reducible rfl)
      try simp only [Act.put, List.getElem_toArray, List.getElem_cons_succ, List.getElem_cons_zero, List.setIfInBounds_toArray, List.set_cons_zero, List.set_cons_succ]
      refine AnyE.take (i := 4) (v := .agg #[.int .i64 y.id, .string y.name, .int .i64 y.rep, .int .i64 y.kind, .slice yau y.sub.length ycu]) rfl (by kernel_rfl) (by kernel_rfl) (by kernel_rfl) (by kernel_rfl) (by kernel_rfl) (fun _ _ _ h => h) (yields_load 24 _ rfl rfl b0 (off0 + k * 5) rfl #[.int .i64 y.id, .string y.name, .int .i64 y.rep, .int .i64 y.kind, .slice yau y.sub.length ycu] _ (fun w h => h.2.2.1) Tryz.underlying24 rfl (by kernel_rfl)) hS ?_
      try simp only [Act.put, List.getElem_toArray, List.getElem_cons_succ, List.getElem_cons_zero, List.setIfInBounds_toArray, List.set_cons_zero, List.set_cons_succ]
      refine AnyE.take (i := 5) (v := ?_) rfl (by kernel_rfl) (by kernel_rfl) (by kernel_rfl) (by kernel_rfl) (by kernel_rfl) (fun _ _ _ h => h) (Or.inl ⟨by rfl, ?_⟩) hS ?_
      rotate_left
      focus (intro wq hSq; obtain ⟨hS1, hS2, hS3, hS4⟩ := hSq; go_simp; with_reducible rfl)
      try simp only [Act.put, List.getElem_toArray, List.getElem_cons_succ, List.getElem_cons_zero, List.setIfInBounds_toArray, List.set_cons_zero, List.set_cons_succ]
      refine AnyE.take (i := 6) (v := ?_) rfl (by kernel_rfl) (by kernel_rfl) (by kernel_rfl) (by kernel_rfl) (by kernel_rfl) (fun _ _ _ h => h) (Or.inl ⟨by rfl, ?_⟩) hS ?_
      rotate_left
      focus (intro wq hSq; obtain ⟨hS1, hS2, hS3, hS4⟩ := hSq; go_simp; with_reducible rfl)
      try simp only [Act.put, List.getElem_toArray, List.getElem_cons_succ, List.getElem_cons_zero, List.setIfInBounds_toArray, List.set_cons_zero, List.set_cons_succ]
      refine AnyE.take (i := 7) (v := ?_) rfl (by kernel_rfl) (by kernel_rfl) (by kernel_rfl) (by kernel_rfl) (by kernel_rfl) (fun _ _ _ h => h) (Or.inl ⟨by rfl, ?_⟩) hS ?_
      rotate_left
      focus (intro wq hSq; obtain ⟨hS1, hS2, hS3, hS4⟩ := hSq; go_simp; with_reducible rfl)
      try simp only [Act.put, List.getElem_toArray, List.getElem_cons_succ, List.getElem_cons_zero, List.setIfInBounds_toArray, List.set_cons_zero, List.set_cons_succ]
      refine AnyE.take (i := 8) (v := ?_) rfl (by kernel_rfl) (by kernel_rfl) (by kernel_rfl) (by kernel_rfl) (by kernel_rfl) (fun _ _ _ h => h) (Or.inl ⟨by rfl, ?_⟩) hS ?_
      rotate_left
      focus (intro wq hSq; obtain ⟨hS1, hS2, hS3, hS4⟩ := hSq; go_simp; with_reducible rfl)
      try simp only [Act.put, List.getElem_toArray, List.getElem_cons_succ, List.getElem_cons_zero, List.setIfInBounds_toArray, List.set_cons_zero, List.set_cons_succ]
      refine AnyE.take (i := 9) (v := .agg #[.bool x.no, .int .i64 x.v.k, .int .i64 x.v.n, .string x.v.s, .slice xau x.l.length xcu, .slice xaf x.f.length xcf]) rfl (by kernel_rfl) (by kernel_rfl) (by kernel_rfl) (by kernel_rfl) (by kernel_rfl) (fun _ _ _ h => h) (yields_load 29 _ rfl rfl b1 (off1 + k * 6) rfl #[.bool x.no, .int .i64 x.v.k, .int .i64 x.v.n, .string x.v.s, .slice xau x.l.length xcu, .slice xaf x.f.length xcf] _ (fun w h => h.2.2.2) Tryz.underlying29 rfl (by kernel_rfl)) hS ?_
      try simp only [Act.put, List.getElem_toArray, List.getElem_cons_succ, List.getElem_cons_zero, List.setIfInBounds_toArray, List.set_cons_zero, List.set_cons_succ]
      refine AnyE.one (i := 10) (by kernel_rfl) rfl rfl ?_
      intro K hK
      simp only [List.getElem_toArray, List.getElem_cons_succ, List.getElem_cons_zero]
      go_simp
      refine HCL.out.mono ?_; rintro e w4 ⟨rfl, hb4⟩
      replace HBr := Lib.hid (HBr.out.trans (hb4.mono HBr.out.size))
      have hS9 := (⟨rowc (row_keep hb4 RAr.out) 4, rowc (row_keep hb4 RBr.out) 5, fun j v hj => (hb4.cell (p := ⟨b0, off0 + k * 5 + j, none⟩) (block_lt_of_cell (hS.2.2.1 j v hj))).trans (hS.2.2.1 j v hj), fun j v hj => (hb4.cell (p := ⟨b1, off1 + k * 6 + j, none⟩) (block_lt_of_cell (hS.2.2.2 j v hj))).trans (hS.2.2.2 j v hj)⟩ : (fun w' => w'.cell? ⟨w.heap.size, 4, none⟩ = some (.slice (some ⟨b0, off0, none⟩) nf cu) ∧ w'.cell? ⟨w.heap.size + 1, 5, none⟩ = some (.slice (some ⟨b1, off1, none⟩) nf cf) ∧ (∀ (j : Nat) (v : Value), (#[.int .i64 y.id, .string y.name, .int .i64 y.rep, .int .i64 y.kind, .slice yau y.sub.length ycu] : Array Value)[j]? = some v → w'.cell? ⟨b0, off0 + k * 5 + j, none⟩ = some v) ∧ (∀ (j : Nat) (v : Value), (#[.bool x.no, .int .i64 x.v.k, .int .i64 x.v.n, .string x.v.s, .slice xau x.l.length xcu, .slice xaf x.f.length xcf] : Array Value)[j]? = some v → w'.cell? ⟨b1, off1 + k * 6 + j, none⟩ = some v)) w4)
      refine hK _ _ (fun _ => hS9) ?_
      clear hK K hS
      have hS := hS9
      clear hS9
      clear hb4 HCL
      try simp only [Act.put, List.getElem_toArray, List.getElem_cons_succ, List.getElem_cons_zero, List.setIfInBounds_toArray, List.set_cons_zero, List.set_cons_succ]
      refine AnyE.take (i := 11) (v := ?_) rfl (by kernel_rfl) (by kernel_rfl) (by kernel_rfl) (by kernel_rfl) (by kernel_rfl) (fun _ _ _ h => h) (Or.inl ⟨by rfl, ?_⟩) hS ?_
      rotate_left
      focus (intro wq hSq; obtain ⟨hS1, hS2, hS3, hS4⟩ := hSq; go_simp; with_reducible rfl)
      try simp only [Act.put, List.getElem_toArray, List.getElem_cons_succ, List.getElem_cons_zero, List.setIfInBounds_toArray, List.set_cons_zero, List.set_cons_succ]
      refine AnyE.done (by kernel_rfl) ?_ _
      clear hS
      obtain ⟨rx, hrx⟩ : ∃ rx, datE y false x = rx := ⟨_, rfl⟩
      rw [hrx]
      have HRX := Lib.hid hrx
      clear hrx
      by_cases h0 : rx = 0
      case pos =>
        have HD2 := Lib.hid (show ∀ (j : Nat) m z, j < k + 1 → n.sub[j]? = some m → d.f[j]? = some z → datE m false z = 0 from fun j m z hj hm hz => by
          rcases Nat.lt_succ_iff_lt_or_eq.1 hj with h | h
          · exact HD.out j m z h hm hz
          · subst h; rw [HX.out] at hz; rw [HY.out] at hm; injection hz with hz; injection hm with hm; rw [← hz, ← hm, HRX.out]; exact h0)
        subst h0
        have hfb := HFB.out
        have hlb := HLB.out
        go_wp2_with fail
        go_roundw
        case rel => exact ⟨k + 1, Hlt.out, by go_num, HD2.out, HBr.out⟩
        case measure => have := Hlt.out; simp [intOf]; omega
      case neg =>
        have hz : R = rx := HEq.out.trans ((datEF_take n.sub d.f k y x HY.out HX.out HD.out (by rw [HRX.out]; exact h0)).trans HRX.out)
        subst hz
        have dr : decide (0 < R) = true := decide_eq_true (Nat.pos_of_ne_zero h0)
        clear h0
        go_wp2_with fail
        go_ret
        exact ⟨rfl, HW.out.trans (HBr.out.mono HW.out.size)⟩
  · have d2 : ((n.rep : Int) == 2) = true := by rw [hr]; rfl
    have d3 : ((n.rep : Int) == 3) = false := by rw [hr]; rfl
    have HRP := Lib.hid hr
    clear hr
    cases no with
    | true =>
      have hEq := datE_none HRP.out HNO.out
      unfold bareB at hEq
      rw [HRr.out, HHV.out, HEL.out, HEF.out] at hEq
      have HEq := Lib.hid hEq
      clear hEq
      by_cases hz : hv = false ∧ el = true ∧ ef = true
      · obtain ⟨rfl, rfl, rfl⟩ := hz
        obtain rfl : R = 0 := by have := HEq.out; simpa using this
        simp only [Bool.not_true] at dl df
        go_wp2_with fail
        go_ret
        exact ⟨rfl, HW.out⟩
      · obtain rfl : R = 3 := by
          have := HEq.out
          cases hv <;> cases el <;> cases ef <;> simp_all
        cases hv with
        | true =>
          go_wp2_with fail
          go_ret
          exact ⟨rfl, HW.out⟩
        | false =>
        cases el with
        | false =>
          simp only [Bool.not_false] at dl
          go_wp2_with fail
          go_ret
          exact ⟨rfl, HW.out⟩
        | true =>
        cases ef with
        | false =>
          simp only [Bool.not_true, Bool.not_false] at dl df
          go_wp2_with fail
          go_ret
          exact ⟨rfl, HW.out⟩
        | true => exact absurd ⟨rfl, rfl, rfl⟩ hz
    | false =>
    have HLON := Lib.hid (show lonely n false d from .inr (.inr ⟨HRP.out, HNO.out⟩))
    by_cases hk0 : n.kind = 0
    case neg =>
      have dk : ((n.kind : Int) != 0) = true := by simpa using hk0
      have hEq := datE_leaf HLON.out hk0
      unfold bareB at hEq
      rw [HRr.out, HNO.out, HEL.out, HEF.out] at hEq
      have hkv : isV n.kind d.v = okB n.kind d.v := by
        have h1 := HR0.out.2.2.1; have h2 := HR0.out.2.2.2
        unfold isV; rw [decide_eq_true (by omega), Bool.true_and]
      obtain ⟨ob, hob⟩ : ∃ ob, okB n.kind d.v = ob := ⟨_, rfl⟩
      rw [hob] at hEq hkv
      rw [hkv] at HIV
      have HEq := Lib.hid hEq
      clear hEq hob hkv hk0
      cases el with
      | false =>
        obtain rfl : R = 3 := by have := HEq.out; simpa using this
        simp only [Bool.not_true, Bool.not_false] at dl df
        go_wp2_with fail
        go_ret
        exact ⟨rfl, HW.out⟩
      | true =>
      simp only [Bool.not_true] at dl
      cases ef with
      | false =>
        obtain rfl : R = 3 := by have := HEq.out; simpa using this
        simp only [Bool.not_false] at df
        go_wp2_with fail
        go_ret
        exact ⟨rfl, HW.out⟩
      | true =>
      simp only [Bool.not_true] at df
      go_wp2_with fail
      refine (HIV.out w1).mono ?_; rintro e w3 ⟨rfl, hb3⟩
      replace HW := Lib.hid (HW.out.trans (hb3.mono HW.out.size))
      clear hb3 cA2 cA3 cA4 cB cB0 cB4 cB5
      cases ob with
      | false =>
        obtain rfl : R = 4 := by have := HEq.out; simpa using this
        go_wp2_with fail
        go_ret
        exact ⟨rfl, HW.out⟩
      | true =>
        obtain rfl : R = 0 := by have := HEq.out; simpa using this
        go_wp2_with fail
        go_ret
        exact ⟨rfl, HW.out⟩
    have dk : ((n.kind : Int) != 0) = false := by simpa using hk0
    have hEq := datE_group HLON.out hk0
    unfold bareB at hEq
    rw [HRr.out, HNF.out, HNS.out, HNO.out, HEL.out, HHV.out] at hEq
    have HEq := Lib.hid hEq
    clear hEq hk0
    cases el with
    | false =>
      obtain rfl : R = 3 := by have := HEq.out; simpa using this
      simp only [Bool.not_false] at dl
      go_wp2_with fail
      go_ret
      exact ⟨rfl, HW.out⟩
    | true =>
    simp only [Bool.not_true] at dl
    cases hv with
    | true =>
      obtain rfl : R = 3 := by have := HEq.out; simpa using this
      go_wp2_with fail
      go_ret
      exact ⟨rfl, HW.out⟩
    | false =>
    have hEq := HEq.out
    rw [if_pos (by simp)] at hEq
    clear HEq
    by_cases hlen : nf = ns
    case neg =>
      rw [if_neg hlen] at hEq
      subst hEq
      have dn : ((nf : Int) != (ns : Int)) = true := by rw [bne_iff_ne]; omega
      clear hlen
      go_wp2_with fail
      go_ret
      exact ⟨rfl, HW.out⟩
    subst hlen
    rw [if_pos rfl] at hEq
    have HEq := Lib.hid hEq
    have dn : ((nf : Int) != (nf : Int)) = false := by simp
    clear hEq df
    go_wp2_with fail
    clear cA2 cA3 cA4 cB cB0 cB4 cB5
    go_loopw [12] (fun i wr => ∃ k : Nat, k ≤ nf ∧ i = .int .i64 (k : Nat) ∧ Hid (∀ (j : Nat) m y, j < k → n.sub[j]? = some m → d.f[j]? = some y → datE m false y = 0) ∧ Hid (Below w1.heap.size w1 wr)) (fun i _ => nf - (intOf i).toNat)
    case atStart => exact ⟨0, Nat.zero_le _, rfl, fun j m y hj => absurd hj (Nat.not_lt_zero _), Below.refl _ _⟩
    case round =>
      obtain ⟨k, hk, rfl, HD, HBr⟩ := hrel
      have RBr := Lib.hid (row_keep HBr.out RB.out); have RAr := Lib.hid (row_keep HBr.out RA.out)
      have cB5 : wr.cell? ⟨w.heap.size + 1, 5, none⟩ = some (.slice af nf cf) := rowc RBr.out 5
      by_cases hlt : k < nf
      case neg =>
        obtain rfl : k = nf := Nat.le_antisymm hk (Nat.le_of_not_lt hlt)
        have hz : R = 0 := HEq.out.trans (datEF_all n.sub d.f fun j m y hm hy => HD.out j m y (by rw [← HNF.out]; exact (List.getElem?_eq_some_iff.1 hy).1) hm hy)
        subst hz
        have dk2 : decide (k < k) = false := by simp
        clear hlt hk
        go_wp2_with fail
        go_ret
        exact ⟨rfl, HW.out.trans (HBr.out.mono HW.out.size)⟩
      obtain ⟨x, hx⟩ : ∃ x, d.f[k]? = some x := ⟨_, List.getElem?_eq_getElem (by rw [HNF.out]; exact hlt)⟩
      obtain ⟨y, hy⟩ : ∃ y, n.sub[k]? = some y := ⟨_, List.getElem?_eq_getElem (by rw [HNS.out]; exact hlt)⟩
      have hxm : x ∈ d.f := List.mem_of_getElem? hx
      have hym : y ∈ n.sub := List.mem_of_getElem? hy
      have hbw := HW.out.trans (HBr.out.mono HW.out.size)
      obtain ⟨b1, off1, h17, hPb1, hb1, hat1⟩ := (HLf.out.under hbw).at (by rw [HNF.out]; omega)
      subst h17
      obtain ⟨xu, xt, hcx, hu, ht⟩ := hat1 k x hx
      obtain ⟨b0, off0, h18, hPb0, hb0, hat0⟩ := (HN.out.under hbw).at (by rw [HNS.out]; omega)
      subst h18
      obtain ⟨yu, hcy, hny⟩ := hat0 k y hy
      obtain ⟨xau, xcu, rfl⟩ := hu.form
      obtain ⟨xaf, xcf, rfl⟩ := ht.form
      obtain ⟨yau, ycu, rfl⟩ := hny.form
      have hI := HIF.out x hxm y (.slice yau y.sub.length ycu)
      unfold DtAt dtA at hcx
      unfold NdAt ndA at hcy
      have HCX := Lib.hid hcx; have HCY := Lib.hid hcy; have HI := Lib.hid hI; have HU := Lib.hid hu; have HT := Lib.hid ht; have HNY := Lib.hid hny; have HX := Lib.hid hx; have HY := Lib.hid hy; have HXM := Lib.hid hxm; have HYM := Lib.hid hym
      have Hlt := Lib.hid hlt; have HBW := Lib.hid hbw
      have hin : (k : Int) < (nf : Int) := Int.ofNat_lt.2 hlt
      have dk2 : decide (k < nf) = true := decide_eq_true hlt
      clear hx hy hxm hym hbw hat0 hat1 hcx hcy hu ht hny hI hlt hk hPb0 hPb1 hb0 hb1
      go_upto_region 37 with fail
      clear cB5
      have hbx := (Below.refl wr.heap.size wr).drew
      have hbw3 := HBW.out.trans (hbx.mono HBW.out.size)
      have hcl := HI.out (.slice xau x.l.length xcu) (.slice xaf x.f.length xcf) false wr.drew ((HNY.out.under (hbx.mono HBW.out.size)).mono fun b hb _ => Nat.lt_of_lt_of_le hb hbw3.size) (fun z hz => HO.out z (by rw [nodes_eq]; exact List.mem_cons_of_mem _ (nodesL_mem HYM.out hz))) (fun z hz => HR.out z (by rw [nodes_eq]; exact List.mem_cons_of_mem _ (nodesL_mem HYM.out hz))) ((HU.out.under (hbx.mono HBW.out.size)).mono fun b hb _ => Nat.lt_of_lt_of_le hb hbw3.size) ((HT.out.under (hbx.mono HBW.out.size)).mono fun b hb _ => Nat.lt_of_lt_of_le hb hbw3.size) (fun z hz => HDf.out z (dtsL_mem HXM.out hz))
      refine AnyE.region (S := fun w' => w'.cell? ⟨w.heap.size, 4, none⟩ = some (.slice (some ⟨b0, off0, none⟩) nf cu) ∧ w'.cell? ⟨w.heap.size + 1, 5, none⟩ = some (.slice (some ⟨b1, off1, none⟩) nf cf) ∧ (∀ (j : Nat) (v : Value), (#[.int .i64 y.id, .string y.name, .int .i64 y.rep, .int .i64 y.kind, .slice yau y.sub.length ycu] : Array Value)[j]? = some v → w'.cell? ⟨b0, off0 + k * 5 + j, none⟩ = some v) ∧ (∀ (j : Nat) (v : Value), (#[.bool x.no, .int .i64 x.v.k, .int .i64 x.v.n, .string x.v.s, .slice xau x.l.length xcu, .slice xaf x.f.length xcf] : Array Value)[j]? = some v → w'.cell? ⟨b1, off1 + k * 6 + j, none⟩ = some v)) (E := []) (by kernel_rfl) ?_
      replace RBr := Lib.hid (row_keep hbx RBr.out); replace RAr := Lib.hid (row_keep hbx RAr.out); replace HBr := Lib.hid (HBr.out.trans (hbx.mono HBr.out.size))
      have hS := (⟨rowc RAr.out 4, rowc RBr.out 5, fun j v hj => (hbx.cell (p := ⟨b0, off0 + k * 5 + j, none⟩) (block_lt_of_cell (HCY.out j v hj))).trans (HCY.out j v hj), fun j v hj => (hbx.cell (p := ⟨b1, off1 + k * 6 + j, none⟩) (block_lt_of_cell (HCX.out j v hj))).trans (HCX.out j v hj)⟩ : (fun w' => w'.cell? ⟨w.heap.size, 4, none⟩ = some (.slice (some ⟨b0, off0, none⟩) nf cu) ∧ w'.cell? ⟨w.heap.size + 1, 5, none⟩ = some (.slice (some ⟨b1, off1, none⟩) nf cf) ∧ (∀ (j : Nat) (v : Value), (#[.int .i64 y.id, .string y.name, .int .i64 y.rep, .int .i64 y.kind, .slice yau y.sub.length ycu] : Array Value)[j]? = some v → w'.cell? ⟨b0, off0 + k * 5 + j, none⟩ = some v) ∧ (∀ (j : Nat) (v : Value), (#[.bool x.no, .int .i64 x.v.k, .int .i64 x.v.n, .string x.v.s, .slice xau x.l.length xcu, .slice xaf x.f.length xcf] : Array Value)[j]? = some v → w'.cell? ⟨b1, off1 + k * 6 + j, none⟩ = some v)) wr.drew)
      have HCL := Lib.hid hcl
      clear hbx hbw3 hcl
      generalize wr.drew = wd at *
      refine AnyE.take (i := 0) (v := ?_) rfl (by kernel_rfl) (by kernel_rfl) (by kernel_rfl) (by kernel_rfl) (by kernel_rfl) (fun _ _ _ h => h) (Or.inl ⟨by rfl, ?_⟩) hS ?_
      rotate_left
      focus (intro wq hSq; obtain ⟨hS1, hS2, hS3, hS4⟩ := hSq; go_simp; with_reducible rfl)
      try simp only [Act.put, List.getElem_toArray, List.getElem_cons_succ, List.getElem_cons_zero, List.setIfInBounds_toArray, List.set_cons_zero, List.set_cons_succ]
      refine AnyE.take (i := 1) (v := ?_) rfl (by kernel_rfl) (by kernel_rfl) (by kernel_rfl) (by kernel_rfl) (by kernel_rfl) (fun _ _ _ h => h) (Or.inl ⟨by rfl, ?_⟩) hS ?_
      rotate_left
      focus (intro wq hSq; obtain ⟨hS1, hS2, hS3, hS4⟩ := hSq; go_simp; with_reducible rfl)
      try simp only [Act.put, List.getElem_toArray, List.getElem_cons_succ, List.getElem_cons_zero, List.setIfInBounds_toArray, List.set_cons_zero, List.set_cons_succ]
      refine AnyE.take (i := 2) (v := ?_) rfl (by kernel_rfl) (by kernel_rfl) (by kernel_rfl) (by kernel_rfl) (by kernel_rfl) (fun _ _ _ h => h) (Or.inl ⟨by rfl, ?_⟩) hS ?_
      rotate_left
      focus (intro wq hSq; obtain ⟨hS1, hS2, hS3, hS4⟩ := hSq; go_simp; with_reducible rfl)
      try simp only [Act.put, List.getElem_toArray, List.getElem_cons_succ, List.getElem_cons_zero, List.setIfInBounds_toArray, List.set_cons_zero, List.set_cons_succ]
      refine AnyE.take (i := 3) (v := ?_) rfl (by kernel_rfl) (by kernel_rfl) (by kernel_rfl) (by kernel_rfl) (by kernel_rfl) (fun _ _ _ h => h) (Or.inl ⟨by rfl, ?_⟩) hS ?_
      rotate_left
      focus (intro wq hSq; obtain ⟨hS1, hS2, hS3, hS4⟩ := hSq; go_simp; with_reducible rfl)
      try simp only [Act.put, List.getElem_toArray, List.getElem_cons_succ, List.getElem_cons_zero, List.setIfInBounds_toArray, List.set_cons_zero, List.set_cons_succ]
      refine AnyE.take (i := 4) (v := .agg #[.int .i64 y.id, .string y.name, .int .i64 y.rep, .int .i64 y.kind, .slice yau y.sub.length ycu]) rfl (by kernel_rfl) (by kernel_rfl) (by kernel_rfl) (by kernel_rfl) (by kernel_rfl) (fun _ _ _ h => h) (yields_load 24 _ rfl rfl b0 (off0 + k * 5) rfl #[.int .i64 y.id, .string y.name, .int .i64 y.rep, .int .i64 y.kind, .slice yau y.sub.length ycu] _ (fun w h => h.2.2.1) Tryz.underlying24 rfl (by kernel_rfl)) hS ?_
      try simp only [Act.put, List.getElem_toArray, List.getElem_cons_succ, List.getElem_cons_zero, List.setIfInBounds_toArray, List.set_cons_zero, List.set_cons_succ]
      refine AnyE.take (i := 5) (v := ?_) rfl (by kernel_rfl) (by kernel_rfl) (by kernel_rfl) (by kernel_rfl) (by kernel_rfl) (fun _ _ _ h => h) (Or.inl ⟨by rfl, ?_⟩) hS ?_
      rotate_left
      focus (intro wq hSq; obtain ⟨hS1, hS2, hS3, hS4⟩ := hSq; go_simp; with_reducible rfl)
      try simp only [Act.put, List.getElem_toArray, List.getElem_cons_succ, List.getElem_cons_zero, List.setIfInBounds_toArray, List.set_cons_zero, List.set_cons_succ]
      refine AnyE.take (i := 6) (v := ?_) rfl (by kernel_rfl) (by kernel_rfl) (by kernel_rfl) (by kernel_rfl) (by kernel_rfl) (fun _ _ _ h => h) (Or.inl ⟨by rfl, ?_⟩) hS ?_
      rotate_left
      focus (intro wq hSq; obtain ⟨hS1, hS2, hS3, hS4⟩ := hSq; go_simp; with_reducible rfl)
      try simp only [Act.put, List.getElem_toArray, List.getElem_cons_succ, List.getElem_cons_zero, List.setIfInBounds_toArray, List.set_cons_zero, List.set_cons_succ]
      refine AnyE.take (i := 7) (v := ?_) rfl (by kernel_rfl) (by kernel_rfl) (by kernel_rfl) (by kernel_rfl) (by kernel_rfl) (fun _ _ _ h => h) (Or.inl ⟨by rfl, ?_⟩) hS ?_
      rotate_left
      focus (intro wq hSq; obtain ⟨hS1, hS2, hS3, hS4⟩ := hSq; go_simp; with_reducible rfl)
      try simp only [Act.put, List.getElem_toArray, List.getElem_cons_succ, List.getElem_cons_zero, List.setIfInBounds_toArray, List.set_cons_zero, List.set_cons_succ]
      refine AnyE.take (i := 8) (v := ?_) rfl (by kernel_rfl) (by kernel_rfl) (by kernel_rfl) (by kernel_rfl) (by kernel_rfl) (fun _ _ _ h => h) (Or.inl ⟨by rfl, ?_⟩) hS ?_
      rotate_left
      focus (intro wq hSq; obtain ⟨hS1, hS2, hS3, hS4⟩ := hSq; go_simp; with_reducible rfl)
      try simp only [Act.put, List.getElem_toArray, List.getElem_cons_succ, List.getElem_cons_zero, List.setIfInBounds_toArray, List.set_cons_zero, List.set_cons_succ]
      refine AnyE.take (i := 9) (v := .agg #[.bool x.no, .int .i64 x.v.k, .int .i64 x.v.n, .string x.v.s, .slice xau x.l.length xcu, .slice xaf x.f.length xcf]) rfl (by kernel_rfl) (by kernel_rfl) (by kernel_rfl) (by kernel_rfl) (by kernel_rfl) (fun _ _ _ h => h) (yields_load 29 _ rfl rfl b1 (off1 + k * 6) rfl #[.bool x.no, .int .i64 x.v.k, .int .i64 x.v.n, .string x.v.s, .slice xau x.l.length xcu, .slice xaf x.f.length xcf] _ (fun w h => h.2.2.2) Tryz.underlying29 rfl (by kernel_rfl)) hS ?_
      try simp only [Act.put, List.getElem_toArray, List.getElem_cons_succ, List.getElem_cons_zero, List.setIfInBounds_toArray, List.set_cons_zero, List.set_cons_succ]
      refine AnyE.one (i := 10) (by kernel_rfl) rfl rfl ?_
      intro K hK
      simp only [List.getElem_toArray, List.getElem_cons_succ, List.getElem_cons_zero]
      go_simp
      refine HCL.out.mono ?_; rintro e w4 ⟨rfl, hb4⟩
      replace HBr := Lib.hid (HBr.out.trans (hb4.mono HBr.out.size))
      have hS9 := (⟨rowc (row_keep hb4 RAr.out) 4, rowc (row_keep hb4 RBr.out) 5, fun j v hj => (hb4.cell (p := ⟨b0, off0 + k * 5 + j, none⟩) (block_lt_of_cell (hS.2.2.1 j v hj))).trans (hS.2.2.1 j v hj), fun j v hj => (hb4.cell (p := ⟨b1, off1 + k * 6 + j, none⟩) (block_lt_of_cell (hS.2.2.2 j v hj))).trans (hS.2.2.2 j v hj)⟩ : (fun w' => w'.cell? ⟨w.heap.size, 4, none⟩ = some (.slice (some ⟨b0, off0, none⟩) nf cu) ∧ w'.cell? ⟨w.heap.size + 1, 5, none⟩ = some (.slice (some ⟨b1, off1, none⟩) nf cf) ∧ (∀ (j : Nat) (v : Value), (#[.int .i64 y.id, .string y.name, .int .i64 y.rep, .int .i64 y.kind, .slice yau y.sub.length ycu] : Array Value)[j]? = some v → w'.cell? ⟨b0, off0 + k * 5 + j, none⟩ = some v) ∧ (∀ (j : Nat) (v : Value), (#[.bool x.no, .int .i64 x.v.k, .int .i64 x.v.n, .string x.v.s, .slice xau x.l.length xcu, .slice xaf x.f.length xcf] : Array Value)[j]? = some v → w'.cell? ⟨b1, off1 + k * 6 + j, none⟩ = some v)) w4)
      refine hK _ _ (fun _ => hS9) ?_
      clear hK K hS
      have hS := hS9
      clear hS9
      clear hb4 HCL
      try simp only [Act.put, List.getElem_toArray, List.getElem_cons_succ, List.getElem_cons_zero, List.setIfInBounds_toArray, List.set_cons_zero, List.set_cons_succ]
      refine AnyE.take (i := 11) (v := ?_) rfl (by kernel_rfl) (by kernel_rfl) (by kernel_rfl) (by kernel_rfl) (by kernel_rfl) (fun _ _ _ h => h) (Or.inl ⟨by rfl, ?_⟩) hS ?_
      rotate_left
      focus (intro wq hSq; obtain ⟨hS1, hS2, hS3, hS4⟩ := hSq; go_simp; with_reducible rfl)
      try simp only [Act.put, List.getElem_toArray, List.getElem_cons_succ, List.getElem_cons_zero, List.setIfInBounds_toArray, List.set_cons_zero, List.set_cons_succ]
      refine AnyE.done (by kernel_rfl) ?_ _
      clear hS
      obtain ⟨rx, hrx⟩ : ∃ rx, datE y false x = rx := ⟨_, rfl⟩
      rw [hrx]
      have HRX := Lib.hid hrx
      clear hrx
      by_cases h0 : rx = 0
      case pos =>
        have HD2 := Lib.hid (show ∀ (j : Nat) m z, j < k + 1 → n.sub[j]? = some m → d.f[j]? = some z → datE m false z = 0 from fun j m z hj hm hz => by
          rcases Nat.lt_succ_iff_lt_or_eq.1 hj with h | h
          · exact HD.out j m z h hm hz
          · subst h; rw [HX.out] at hz; rw [HY.out] at hm; injection hz with hz; injection hm with hm; rw [← hz, ← hm, HRX.out]; exact h0)
        subst h0
        have hfb := HFB.out
        have hlb := HLB.out
        go_wp2_with fail
        go_roundw
        case rel => exact ⟨k + 1, Hlt.out, by go_num, HD2.out, HBr.out⟩
        case measure => have := Hlt.out; simp [intOf]; omega
      case neg =>
        have hz : R = rx := HEq.out.trans ((datEF_take n.sub d.f k y x HY.out HX.out HD.out (by rw [HRX.out]; exact h0)).trans HRX.out)
        subst hz
        have dr : decide (0 < R) = true := decide_eq_true (Nat.pos_of_ne_zero h0)
        clear h0
        go_wp2_with fail
        go_ret
        exact ⟨rfl, HW.out.trans (HBr.out.mono HW.out.size)⟩
  · have d2 : ((n.rep : Int) == 2) = false := by rw [hr]; rfl
    have d3 : ((n.rep : Int) == 3) = true := by rw [hr]; rfl
    have HRP := Lib.hid hr
    clear hr
    cases no with
    | true =>
    obtain rfl : R = 3 := by rw [← HRr.out]; exact datE_no HNO.out (.inr (by rw [HRP.out]; decide))
    go_wp2_with fail
    go_ret
    exact ⟨rfl, HW.out⟩
    | false =>
    have hEq := datE_list (n := n) (d := d) HRP.out
    unfold bareB at hEq
    rw [HRr.out, HHV.out, HNO.out, HEF.out, HNL.out] at hEq
    have HEq := Lib.hid hEq
    clear hEq
    cases hv with
    | true =>
      obtain rfl : R = 3 := by have := HEq.out; simpa using this
      go_wp2_with fail
      go_ret
      exact ⟨rfl, HW.out⟩
    | false =>
    cases ef with
    | false =>
      obtain rfl : R = 3 := by have := HEq.out; simpa using this
      simp only [Bool.not_false] at df
      go_wp2_with fail
      go_ret
      exact ⟨rfl, HW.out⟩
    | true =>
    simp only [Bool.not_true] at df
    have hEq := HEq.out
    rw [if_pos (by simp)] at hEq
    clear HEq dl
    by_cases h40 : 40 < nl
    · rw [if_pos h40] at hEq
      subst hEq
      have d40 : (40 : Int) < (nl : Int) := by omega
      clear h40
      go_wp2_with fail
      go_ret
      exact ⟨rfl, HW.out⟩
    rw [if_neg h40] at hEq
    have HEq := Lib.hid hEq
    have d40 : ¬ (40 : Int) < (nl : Int) := by omega
    clear h40 hEq
    go_wp2_with fail
    clear cA2 cA3 cA4 cB cB0 cB4 cB5
    go_loopw [9] (fun i wr => ∃ k : Nat, k ≤ nl ∧ i = .int .i64 (k : Nat) ∧ Hid (∀ (j : Nat) y, j < k → d.l[j]? = some y → datE n true y = 0) ∧ Hid (Below w1.heap.size w1 wr)) (fun i _ => nl - (intOf i).toNat)
    case atStart => exact ⟨0, Nat.zero_le _, rfl, fun j y hj => absurd hj (Nat.not_lt_zero _), Below.refl _ _⟩
    case round =>
      obtain ⟨k, hk, rfl, HD, HBr⟩ := hrel
      have RBr := Lib.hid (row_keep HBr.out RB.out); have RAr := Lib.hid (row_keep HBr.out RA.out)
      have cB4 : wr.cell? ⟨w.heap.size + 1, 4, none⟩ = some (.slice al nl cl) := rowc RBr.out 4
      by_cases hlt : k < nl
      case neg =>
        obtain rfl : k = nl := Nat.le_antisymm hk (Nat.le_of_not_lt hlt)
        have hz : R = 0 := HEq.out.trans (datEL_all n d.l fun j y hy => HD.out j y (by rw [← HNL.out]; exact (List.getElem?_eq_some_iff.1 hy).1) hy)
        subst hz
        have dk2 : decide (k < k) = false := by simp
        clear hlt hk
        go_wp2_with fail
        go_ret
        exact ⟨rfl, HW.out.trans (HBr.out.mono HW.out.size)⟩
      obtain ⟨x, hx⟩ : ∃ x, d.l[k]? = some x := ⟨_, List.getElem?_eq_getElem (by rw [HNL.out]; exact hlt)⟩
      have hxm : x ∈ d.l := List.mem_of_getElem? hx
      have hbw := HW.out.trans (HBr.out.mono HW.out.size)
      obtain ⟨b1, off1, h17, hPb1, hb1, hat1⟩ := (HLl.out.under hbw).at (by rw [HNL.out]; omega)
      subst h17
      obtain ⟨xu, xt, hcx, hu, ht⟩ := hat1 k x hx
      obtain ⟨xau, xcu, rfl⟩ := hu.form
      obtain ⟨xaf, xcf, rfl⟩ := ht.form
      have hI := HIL.out x hxm n (.slice au ns cu)
      unfold DtAt dtA at hcx
      have HCX := Lib.hid hcx; have HI := Lib.hid hI; have HU := Lib.hid hu; have HT := Lib.hid ht; have HX := Lib.hid hx; have HXM := Lib.hid hxm
      have Hlt := Lib.hid hlt; have HBW := Lib.hid hbw
      have hin : (k : Int) < (nl : Int) := Int.ofNat_lt.2 hlt
      have dk2 : decide (k < nl) = true := decide_eq_true hlt
      clear hx hxm hbw hat1 hcx hu ht hI hlt hk hPb1 hb1
      go_upto_region 19 with fail
      clear cB4
      have hbx := (Below.refl wr.heap.size wr).drew
      have hbw3 := HBW.out.trans (hbx.mono HBW.out.size)
      have hcl := HI.out (.slice xau x.l.length xcu) (.slice xaf x.f.length xcf) true wr.drew ((HN.out.under hbw3).mono fun b hb _ => Nat.lt_of_lt_of_le hb hbw3.size) HO.out HR.out ((HU.out.under (hbx.mono HBW.out.size)).mono fun b hb _ => Nat.lt_of_lt_of_le hb hbw3.size) ((HT.out.under (hbx.mono HBW.out.size)).mono fun b hb _ => Nat.lt_of_lt_of_le hb hbw3.size) (fun z hz => HDl.out z (dtsL_mem HXM.out hz))
      refine AnyE.region (S := fun w' => (∀ j_1, w'.cell? ⟨w.heap.size, j_1, none⟩ = (#[.int .i64 n.id, .string n.name, .int .i64 n.rep, .int .i64 n.kind, .slice au ns cu] : Array Value)[j_1]?) ∧ w'.cell? ⟨w.heap.size + 1, 4, none⟩ = some (.slice (some ⟨b1, off1, none⟩) nl cl) ∧ (∀ (j : Nat) (v : Value), (#[.bool x.no, .int .i64 x.v.k, .int .i64 x.v.n, .string x.v.s, .slice xau x.l.length xcu, .slice xaf x.f.length xcf] : Array Value)[j]? = some v → w'.cell? ⟨b1, off1 + k * 6 + j, none⟩ = some v)) (E := []) (by kernel_rfl) ?_
      replace RBr := Lib.hid (row_keep hbx RBr.out); replace RAr := Lib.hid (row_keep hbx RAr.out); replace HBr := Lib.hid (HBr.out.trans (hbx.mono HBr.out.size))
      have hS := (⟨rowc RAr.out, rowc RBr.out 4, fun j v hj => (hbx.cell (p := ⟨b1, off1 + k * 6 + j, none⟩) (block_lt_of_cell (HCX.out j v hj))).trans (HCX.out j v hj)⟩ : (fun w' => (∀ j_1, w'.cell? ⟨w.heap.size, j_1, none⟩ = (#[.int .i64 n.id, .string n.name, .int .i64 n.rep, .int .i64 n.kind, .slice au ns cu] : Array Value)[j_1]?) ∧ w'.cell? ⟨w.heap.size + 1, 4, none⟩ = some (.slice (some ⟨b1, off1, none⟩) nl cl) ∧ (∀ (j : Nat) (v : Value), (#[.bool x.no, .int .i64 x.v.k, .int .i64 x.v.n, .string x.v.s, .slice xau x.l.length xcu, .slice xaf x.f.length xcf] : Array Value)[j]? = some v → w'.cell? ⟨b1, off1 + k * 6 + j, none⟩ = some v)) wr.drew)
      have HCL := Lib.hid hcl
      clear hbx hbw3 hcl
      generalize wr.drew = wd at *
      refine AnyE.take (i := 0) (v := ?_) rfl (by kernel_rfl) (by kernel_rfl) (by kernel_rfl) (by kernel_rfl) (by kernel_rfl) (fun _ _ _ h => h) (Or.inl ⟨by rfl, ?_⟩) hS ?_
      rotate_left
      focus (intro wq hSq; obtain ⟨hS1, hS2, hS3⟩ := hSq; go_simp; with_reducible rfl)
      try simp only [Act.put, List.getElem_toArray, List.getElem_cons_succ, List.getElem_cons_zero, List.setIfInBounds_toArray, List.set_cons_zero, List.set_cons_succ]
      refine AnyE.take (i := 1) (v := ?_) rfl (by kernel_rfl) (by kernel_rfl) (by kernel_rfl) (by kernel_rfl) (by kernel_rfl) (fun _ _ _ h => h) (Or.inl ⟨by rfl, ?_⟩) hS ?_
      rotate_left
      focus (intro wq hSq; obtain ⟨hS1, hS2, hS3⟩ := hSq; go_simp; with_reducible rfl)
      try simp only [Act.put, List.getElem_toArray, List.getElem_cons_succ, List.getElem_cons_zero, List.setIfInBounds_toArray, List.set_cons_zero, List.set_cons_succ]
      refine AnyE.take (i := 2) (v := ?_) rfl (by kernel_rfl) (by kernel_rfl) (by kernel_rfl) (by kernel_rfl) (by kernel_rfl) (fun _ _ _ h => h) (Or.inl ⟨by rfl, ?_⟩) hS ?_
      rotate_left
      focus (intro wq hSq; obtain ⟨hS1, hS2, hS3⟩ := hSq; go_simp; with_reducible rfl)
      try simp only [Act.put, List.getElem_toArray, List.getElem_cons_succ, List.getElem_cons_zero, List.setIfInBounds_toArray, List.set_cons_zero, List.set_cons_succ]
      refine AnyE.take (i := 3) (v := ?_) rfl (by kernel_rfl) (by kernel_rfl) (by kernel_rfl) (by kernel_rfl) (by kernel_rfl) (fun _ _ _ h => h) (Or.inl ⟨by rfl, ?_⟩) hS ?_
      rotate_left
      focus (intro wq hSq; obtain ⟨hS1, hS2, hS3⟩ := hSq; go_simp; with_reducible rfl)
      try simp only [Act.put, List.getElem_toArray, List.getElem_cons_succ, List.getElem_cons_zero, List.setIfInBounds_toArray, List.set_cons_zero, List.set_cons_succ]
      refine AnyE.take (i := 4) (v := ?_) rfl (by kernel_rfl) (by kernel_rfl) (by kernel_rfl) (by kernel_rfl) (by kernel_rfl) (fun _ _ _ h => h) (Or.inl ⟨by rfl, ?_⟩) hS ?_
      rotate_left
      focus (intro wq hSq; obtain ⟨hS1, hS2, hS3⟩ := hSq; go_simp; with_reducible rfl)
      try simp only [Act.put, List.getElem_toArray, List.getElem_cons_succ, List.getElem_cons_zero, List.setIfInBounds_toArray, List.set_cons_zero, List.set_cons_succ]
      refine AnyE.take (i := 5) (v := .agg #[.bool x.no, .int .i64 x.v.k, .int .i64 x.v.n, .string x.v.s, .slice xau x.l.length xcu, .slice xaf x.f.length xcf]) rfl (by kernel_rfl) (by kernel_rfl) (by kernel_rfl) (by kernel_rfl) (by kernel_rfl) (fun _ _ _ h => h) (yields_load 29 _ rfl rfl b1 (off1 + k * 6) rfl #[.bool x.no, .int .i64 x.v.k, .int .i64 x.v.n, .string x.v.s, .slice xau x.l.length xcu, .slice xaf x.f.length xcf] _ (fun w h => h.2.2) Tryz.underlying29 rfl (by kernel_rfl)) hS ?_
      try simp only [Act.put, List.getElem_toArray, List.getElem_cons_succ, List.getElem_cons_zero, List.setIfInBounds_toArray, List.set_cons_zero, List.set_cons_succ]
      refine AnyE.one (i := 6) (by kernel_rfl) rfl rfl ?_
      intro K hK
      simp only [List.getElem_toArray, List.getElem_cons_succ, List.getElem_cons_zero]
      go_simp
      refine HCL.out.mono ?_; rintro e w4 ⟨rfl, hb4⟩
      replace HBr := Lib.hid (HBr.out.trans (hb4.mono HBr.out.size))
      have hS9 := (⟨rowc (row_keep hb4 RAr.out), rowc (row_keep hb4 RBr.out) 4, fun j v hj => (hb4.cell (p := ⟨b1, off1 + k * 6 + j, none⟩) (block_lt_of_cell (hS.2.2 j v hj))).trans (hS.2.2 j v hj)⟩ : (fun w' => (∀ j_1, w'.cell? ⟨w.heap.size, j_1, none⟩ = (#[.int .i64 n.id, .string n.name, .int .i64 n.rep, .int .i64 n.kind, .slice au ns cu] : Array Value)[j_1]?) ∧ w'.cell? ⟨w.heap.size + 1, 4, none⟩ = some (.slice (some ⟨b1, off1, none⟩) nl cl) ∧ (∀ (j : Nat) (v : Value), (#[.bool x.no, .int .i64 x.v.k, .int .i64 x.v.n, .string x.v.s, .slice xau x.l.length xcu, .slice xaf x.f.length xcf] : Array Value)[j]? = some v → w'.cell? ⟨b1, off1 + k * 6 + j, none⟩ = some v)) w4)
      refine hK _ _ (fun _ => hS9) ?_
      clear hK K hS
      have hS := hS9
      clear hS9
      clear hb4 HCL
      try simp only [Act.put, List.getElem_toArray, List.getElem_cons_succ, List.getElem_cons_zero, List.setIfInBounds_toArray, List.set_cons_zero, List.set_cons_succ]
      refine AnyE.take (i := 7) (v := ?_) rfl (by kernel_rfl) (by kernel_rfl) (by kernel_rfl) (by kernel_rfl) (by kernel_rfl) (fun _ _ _ h => h) (Or.inl ⟨by rfl, ?_⟩) hS ?_
      rotate_left
      focus (intro wq hSq; obtain ⟨hS1, hS2, hS3⟩ := hSq; go_simp; with_reducible rfl)
      try simp only [Act.put, List.getElem_toArray, List.getElem_cons_succ, List.getElem_cons_zero, List.setIfInBounds_toArray, List.set_cons_zero, List.set_cons_succ]
      refine AnyE.done (by kernel_rfl) ?_ _
      clear hS
      obtain ⟨rx, hrx⟩ : ∃ rx, datE n true x = rx := ⟨_, rfl⟩
      rw [hrx]
      have HRX := Lib.hid hrx
      clear hrx
      by_cases h0 : rx = 0
      case pos =>
        have HD2 := Lib.hid (show ∀ (j : Nat) z, j < k + 1 → d.l[j]? = some z → datE n true z = 0 from fun j z hj hz => by
          rcases Nat.lt_succ_iff_lt_or_eq.1 hj with h | h
          · exact HD.out j z h hz
          · subst h; rw [HX.out] at hz; injection hz with hz; rw [← hz, HRX.out]; exact h0)
        subst h0
        have hfb := HFB.out
        have hlb := HLB.out
        go_wp2_with fail
        go_roundw
        case rel => exact ⟨k + 1, Hlt.out, by go_num, HD2.out, HBr.out⟩
        case measure => have := Hlt.out; simp [intOf]; omega
      case neg =>
        have hz : R = rx := HEq.out.trans ((datEL_take n d.l k x HX.out HD.out (by rw [HRX.out]; exact h0)).trans HRX.out)
        subst hz
        have dr : decide (0 < R) = true := decide_eq_true (Nat.pos_of_ne_zero h0)
        clear h0
        go_wp2_with fail
        go_ret
        exact ⟨rfl, HW.out.trans (HBr.out.mono HW.out.size)⟩
end Go.Proofs.YthfljcpfcnddhaaGreatDoor
