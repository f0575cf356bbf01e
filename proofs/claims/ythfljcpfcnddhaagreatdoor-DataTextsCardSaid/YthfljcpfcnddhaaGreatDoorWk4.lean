/- The walk of the document's WalkOf. Written by gen_wk4.py. -/
import Derived.Test.YthfljcpfcnddhaaGreatDoorWk0
import Derived.Test.YthfljcpfcnddhaaGreatDoorDc3
import Derived.Test.YthfljcpfcnddhaaGreatDoorTv4
import Derived.Deep.AppendLies
namespace Go.Proofs.YthfljcpfcnddhaaGreatDoor
set_option linter.unusedVariables false
set_option linter.unusedSimpArgs false
open Go Go.RowKit Go.ChangeShapes

theorem own_cap2 {w : World} {B n s : Nat} {e : TypeId} {v : Value} {xs : List Value} (h : w.ownsRow B e s v n xs) : ∃ b c, v = .slice b n c ∧ n ≤ c := by
  rcases h.2 with ⟨rfl, rfl⟩ | ⟨g, cap, cur, rfl, _, _, h4, _⟩
  · exact ⟨none, 0, rfl, Nat.le_refl _⟩
  · exact ⟨_, cap, rfl, h4⟩
theorem flat3_len (L : List Val) : (L.flatMap valCells).length = L.length * 3 := by
  induction L with
  | nil => rfl
  | cons a r ih => rw [List.flatMap_cons, List.length_append, ih, List.length_cons]; show 3 + _ = _; omega
theorem wp_appV2 {w : World} {o : Oper} {a : Act} {K : Act → World → Prop} {Q : Exit → Act → World → Prop} (s x : Operand)
    (ho : o.op = .call { callee := .builtin .append, args := #[s, x], argTypes := #[46, 46] }) (B : Nat) (v : Value) (l0 : List Val) (hs : a.eval s = v) (hown : w.ownsRow B 26 3 v l0.length (l0.flatMap valCells))
    (u : Value) (l : List Val) (hx : a.eval x = u) (hI : IsVals w u l) (h8 : (l0.length + l.length) * 32 ≤ 140737488355328) (hB : B ≤ w.heap.size)
    (h : ∀ v' w', w'.ownsRow B 26 3 v' (l0 ++ l).length ((l0 ++ l).flatMap valCells) → w.grownBy w' v.ownBlock → K (a.put o.dst v') w') : Oper.wp Tryz.prog o a w K Q := by
  obtain ⟨i0, hi, hz0, hz1, hz2⟩ := val_infoB
  rcases hI with ⟨rfl, ad, cap, rfl⟩ | ⟨b, off, cap, rfl, hlt, hc⟩
  · obtain ⟨vb, vc, rfl, hvc⟩ := own_cap2 hown
    unfold Oper.wp execOp
    have hr := run_append_none (P := Tryz.prog) w 46 o.type 26 0 i0 Tryz.underlying46 hi vb l0.length vc ad cap hvc
    simp only [ho, resolve, invoke, builtin, Sem.run_bind, Sem.run_pure, Result.andThen_ok, List.map_toArray, List.map_cons, List.map_nil, hs, hx, hr]
    exact h _ _ (by simpa using hown) ⟨rfl, rfl, rfl, Nat.le_refl _, fun _ _ _ => rfl⟩
  · obtain ⟨v', w', hr, h2, h3, _, h5⟩ := run_append_own_at (P := Tryz.prog) w B 46 o.type 26 i0 (.agg #[.int .i64 0, .int .i64 0, .string ByteArray.empty]) 3 32 Tryz.underlying46 hi hz0 hz1 hz2 rfl (by decide) v l0.length _ hown ⟨b, off, none⟩ l.length cap (l.flatMap valCells) (by rw [flat3_len]) (by
        intro j u hj
        rw [Go.WideShapes.add_plain]; exact flat_cell l off hc j u hj) (flat_one l) (by unfold maxLen; omega) h8 hB
    unfold Oper.wp execOp
    simp only [ho, resolve, invoke, builtin, Sem.run_bind, Sem.run_pure, Result.andThen_ok, List.map_toArray, List.map_cons, List.map_nil, hs, hx, hr]
    exact h v' w' (by simpa using h2) h3
def WalkORet (L : List Val) (w : World) (e : Ending) (w' : World) : Prop := ∃ v, e = .returned v ∧ w'.ownsRow w.heap.size 26 3 v L.length (L.flatMap valCells) ∧ Below w.heap.size w w'

set_option maxRecDepth 100000 in
set_option maxHeartbeats 32000000 in
theorem walkOf_any (id : Int) : ∀ (d : Dt) (n : Nd) (u ul uf : Value) (one : Bool) (w : World),
    IsNds (· < w.heap.size) w u n.sub → (∀ x ∈ nodes n, x.Ok1) → (∀ x ∈ nodes n, okRep x) → IsDts (· < w.heap.size) w ul d.l → IsDts (· < w.heap.size) w uf d.f → (∀ x ∈ dts d, x.Ok1) → datE n one d = 0 →
    (walkV n id one d).length * 32 ≤ 140737488355328 →
    Calls Tryz.prog 22 #[.agg (ndA n u), .agg (dtA d ul uf), .int .i64 id, .bool one] w (WalkORet (walkV n id one d) w) := by
  apply Dt.ind
  intro d IHl IHf n u ul uf one w hN hO hR hl hf hD hz hcap
  have hD0 := hD d (by rw [dts_eq]; exact List.mem_cons_self ..)
  have hR0 := hR n (by rw [nodes_eq]; exact List.mem_cons_self ..)
  have hDl : ∀ x ∈ dtsL d.l, x.Ok1 := fun x hx => hD x (by rw [dts_eq]; exact List.mem_cons_of_mem _ (List.mem_append_left _ hx))
  have hDf : ∀ x ∈ dtsL d.f, x.Ok1 := fun x hx => hD x (by rw [dts_eq]; exact List.mem_cons_of_mem _ (List.mem_append_right _ hx))
  have HIL := Lib.hid IHl; have HIF := Lib.hid IHf; have HN := Lib.hid hN; have HO := Lib.hid hO; have HR := Lib.hid hR; have HLl := Lib.hid hl; have HLf := Lib.hid hf; have HDl := Lib.hid hDl; have HDf := Lib.hid hDf
  have HLB := Lib.hid hD0.l; have HFB := Lib.hid hD0.f; have HR0 := Lib.hid hR0; have HZ := Lib.hid hz; have HCAP := Lib.hid hcap
  clear IHl IHf hN hO hR hDl hDf hD hD0 hR0 hz hcap
  obtain ⟨au, cu, rfl⟩ := HN.out.form
  obtain ⟨al, cl, rfl⟩ := hl.form
  obtain ⟨af, cf, rfl⟩ := hf.form
  clear hl hf
  obtain ⟨R, hRr⟩ : ∃ R, walkV n id one d = R := ⟨_, rfl⟩
  rw [hRr] at HCAP ⊢
  have HRr := Lib.hid hRr
  clear hRr
  obtain ⟨ns, hns⟩ : ∃ ns, n.sub.length = ns := ⟨_, rfl⟩
  obtain ⟨nl, hnl⟩ : ∃ nl, d.l.length = nl := ⟨_, rfl⟩
  obtain ⟨nf, hnf⟩ : ∃ nf, d.f.length = nf := ⟨_, rfl⟩
  rw [hns] at HN; rw [hnl] at HLl HLB; rw [hnf] at HLf HFB
  rw [hns, hnl, hnf]
  have HNS := Lib.hid hns; have HNL := Lib.hid hnl; have HNF := Lib.hid hnf
  clear hns hnl hnf
  unfold ndA dtA at *
  obtain ⟨no, hno⟩ : ∃ no, d.no = no := ⟨_, rfl⟩
  rw [hno]
  have HNO := Lib.hid hno
  clear hno
  go_enter Tryz.func22, Tryz.ntmps22
  go_upto_region 1 with fail
  have hb0 := rows2 (w := w) (A := .cells #[.int .i64 n.id, .string n.name, .int .i64 n.rep, .int .i64 n.kind, .slice au ns cu] 24) (B := .cells #[.bool no, .int .i64 d.v.k, .int .i64 d.v.n, .string d.v.s, .slice al nl cl, .slice af nf cf] 29) (Below.refl _ _)
  generalize ((w.alloc (.cells #[.int .i64 n.id, .string n.name, .int .i64 n.rep, .int .i64 n.kind, .slice au ns cu] 24)).alloc (.cells #[.bool no, .int .i64 d.v.k, .int .i64 d.v.n, .string d.v.s, .slice al nl cl, .slice af nf cf] 29)) = w1 at *
  obtain ⟨rA, rB, hbw, hz1⟩ := hb0
  have HW := Lib.hid hbw; have RA := Lib.hid rA; have RB := Lib.hid rB; have HZ1 := Lib.hid hz1
  clear rA rB hbw hz1
  have cA := rowc RA.out; have cB := rowc RB.out
  have cA3 : w1.cell? ⟨w.heap.size, 3, none⟩ = some (.int .i64 n.kind) := cA 3
  have eq1 := HRr.out
  rw [walkV_eq, HNO.out] at eq1
  have HEQ := Lib.hid eq1
  clear eq1
  cases no with
  | true =>
    have h1 := HEQ.out
    rw [if_pos rfl] at h1
    subst h1
    clear cA3
    go_wp2_with fail
    go_ret
    exact ⟨_, rfl, World.ownsRow_nil _ _ _ _, HW.out⟩
  | false =>
  have eq1 := HEQ.out
  rw [if_neg (by decide)] at eq1
  clear HEQ
  by_cases hl3 : (!one && decide (n.rep = 3)) = true
  · rw [if_pos hl3] at eq1
    have HEQ := Lib.hid eq1
    obtain ⟨rfl, hr3⟩ : one = false ∧ n.rep = 3 := by simpa using hl3
    have d3 : ((n.rep : Int) == 3) = true := by rw [hr3]; rfl
    have hzl : datEL n d.l = 0 := by
      have h := HZ.out
      rw [datE_list hr3] at h
      split at h
      · split at h
        · omega
        · exact h
      · omega
    have HZL := Lib.hid (datEL_zero n d.l hzl)
    clear eq1 hl3 hr3 hzl
    go_wp2_with fail
    clear cA cB cA3 d3
    go_loopw [9, 10] (fun s9 i wr => ∃ (k : Nat) (v9 : Value), k ≤ nl ∧ i = .int .i64 (k : Nat) ∧ v9 = s9 ∧ Hid (wr.ownsRow w1.heap.size 26 3 v9 (walkVL n id (d.l.take k)).length ((walkVL n id (d.l.take k)).flatMap valCells)) ∧ Hid (Below w1.heap.size w1 wr)) (fun _ i _ => nl - (intOf i).toNat)
    case atStart => exact ⟨0, _, Nat.zero_le _, rfl, rfl, World.ownsRow_nil _ _ _ _, Below.refl _ _⟩
    case round =>
      obtain ⟨k, v9, hk, rfl, hv9, HOW, HBr⟩ := hrel
      subst hv9
      have RAr := Lib.hid (row_keep HBr.out RA.out); have RBr := Lib.hid (row_keep HBr.out RB.out)
      have cB4 : wr.cell? ⟨w.heap.size + 1, 4, none⟩ = some (.slice al nl cl) := rowc RBr.out 4
      by_cases hlt : k < nl
      case neg =>
        obtain rfl : k = nl := Nat.le_antisymm hk (Nat.le_of_not_lt hlt)
        have hq := HOW.out
        rw [List.take_of_length_le (Nat.le_of_eq HNL.out), HEQ.out] at hq
        have HQ := Lib.hid hq
        have dk : decide (k < k) = false := by simp
        clear hlt hk hq
        go_wp2_with fail
        go_ret
        exact ⟨v9, rfl, own_baseN HQ.out HW.out.size, HW.out.trans (HBr.out.mono HW.out.size)⟩
      obtain ⟨x, hx⟩ : ∃ x, d.l[k]? = some x := ⟨_, List.getElem?_eq_getElem (by rw [HNL.out]; exact hlt)⟩
      have hxm : x ∈ d.l := List.mem_of_getElem? hx
      have hbw := HW.out.trans (HBr.out.mono HW.out.size)
      obtain ⟨b1, off1, h17, hPb1, hb1, hat1⟩ := (HLl.out.under hbw).at (by rw [HNL.out]; omega)
      subst h17
      obtain ⟨xu, xt, hcx, hu, ht⟩ := hat1 k x hx
      obtain ⟨xau, xcu, rfl⟩ := hu.form
      obtain ⟨xaf, xcf, rfl⟩ := ht.form
      have hI := HIL.out x hxm n (.slice au ns cu) (.slice xau x.l.length xcu) (.slice xaf x.f.length xcf) true
      have hvt := walkVL_take n id hx
      have hlen : ((walkVL n id (d.l.take k)).length + (walkV n id true x).length) * 32 ≤ 140737488355328 := by
        have h1 := HCAP.out
        have h2 : (walkVL n id (d.l.take (k + 1))).length ≤ R.length := by
          rw [← HEQ.out]
          conv => rhs; rw [← List.take_append_drop (k + 1) d.l]
          rw [walkVL_app, List.length_append]; omega
        rw [hvt, List.length_append] at h2
        exact Nat.le_trans (Nat.mul_le_mul_right 32 h2) h1
      have HVT := Lib.hid hvt; have HLEN := Lib.hid hlen
      unfold DtAt dtA at hcx
      have HCX := Lib.hid hcx; have HI := Lib.hid hI; have HU := Lib.hid hu; have HT := Lib.hid ht; have HX := Lib.hid hx; have HXM := Lib.hid hxm
      have Hlt := Lib.hid hlt; have HBW := Lib.hid hbw; have HPB1 := Lib.hid (show b1 < w.heap.size from hPb1)
      have hin : (k : Int) < (nl : Int) := Int.ofNat_lt.2 hlt
      have dk : decide (k < nl) = true := decide_eq_true hlt
      clear hx hxm hbw hat1 hcx hu ht hI hlt hk hPb1 hb1 hvt hlen
      go_upto_region 8 with fail
      clear cB4
      refine AnyE.region (S := fun w' => (∀ j_1, w'.cell? ⟨w.heap.size, j_1, none⟩ = (#[.int .i64 n.id, .string n.name, .int .i64 n.rep, .int .i64 n.kind, .slice au ns cu] : Array Value)[j_1]?) ∧ w'.cell? ⟨w.heap.size + 1, 4, none⟩ = some (.slice (some ⟨b1, off1, none⟩) nl cl) ∧ (∀ (j : Nat) (v : Value), (#[.bool x.no, .int .i64 x.v.k, .int .i64 x.v.n, .string x.v.s, .slice xau x.l.length xcu, .slice xaf x.f.length xcf] : Array Value)[j]? = some v → w'.cell? ⟨b1, off1 + k * 6 + j, none⟩ = some v)) (E := []) (by kernel_rfl) ?_
      have hbx := (Below.refl wr.heap.size wr).drew
      have hbw3 := HBW.out.trans (hbx.mono HBW.out.size)
      have hcl := HI.out wr.drew ((HN.out.under hbw3).mono fun b hb _ => Nat.lt_of_lt_of_le hb hbw3.size) HO.out HR.out ((HU.out.under (hbx.mono HBW.out.size)).mono fun b hb _ => Nat.lt_of_lt_of_le hb hbw3.size) ((HT.out.under (hbx.mono HBW.out.size)).mono fun b hb _ => Nat.lt_of_lt_of_le hb hbw3.size) (fun z hz => HDl.out z (dtsL_mem HXM.out hz)) (HZL.out x HXM.out) (by have := HLEN.out; omega)
      replace RBr := Lib.hid (row_keep hbx RBr.out); replace RAr := Lib.hid (row_keep hbx RAr.out); replace HBr := Lib.hid (HBr.out.trans (hbx.mono HBr.out.size)); replace HOW := Lib.hid (own_blw HOW.out hbx)
      replace HBW := Lib.hid hbw3
      have hS := (⟨rowc RAr.out, rowc RBr.out 4, fun j v hj => (hbx.cell (p := ⟨b1, off1 + k * 6 + j, none⟩) (block_lt_of_cell (HCX.out j v hj))).trans (HCX.out j v hj)⟩ : (fun w' => (∀ j_1, w'.cell? ⟨w.heap.size, j_1, none⟩ = (#[.int .i64 n.id, .string n.name, .int .i64 n.rep, .int .i64 n.kind, .slice au ns cu] : Array Value)[j_1]?) ∧ w'.cell? ⟨w.heap.size + 1, 4, none⟩ = some (.slice (some ⟨b1, off1, none⟩) nl cl) ∧ (∀ (j : Nat) (v : Value), (#[.bool x.no, .int .i64 x.v.k, .int .i64 x.v.n, .string x.v.s, .slice xau x.l.length xcu, .slice xaf x.f.length xcf] : Array Value)[j]? = some v → w'.cell? ⟨b1, off1 + k * 6 + j, none⟩ = some v)) wr.drew)
      have HCL := Lib.hid hcl
      have hcx2 := hS.2.2
      replace HCX := Lib.hid hcx2; clear hcx2
      clear hbx hbw3 hcl
      generalize wr.drew = wd at *
      refine AnyE.take (i := 0) (v := ?_) rfl (by kernel_rfl) (by kernel_rfl) (by kernel_rfl) (by kernel_rfl) (by kernel_rfl) (fun _ _ _ h => h) (Or.inl ⟨by rfl, ?_⟩) hS ?_
      rotate_left
      focus (intro wq hSq; obtain ⟨hS1, hS2, hS3⟩ := hSq; go_simp; with_reducible rfl)
      try simp only [Act.put, List.getElem_toArray, List.getElem_cons_succ, List.getElem_cons_zero, List.setIfInBounds_toArray, List.set_cons_zero, List.set_cons_succ]
      refine AnyE.take (i := 1) (v := ?_) rfl (by kernel_rfl) (by kernel_rfl) (by kernel_rfl) (by kernel_rfl) (by kernel_rfl) (fun _ _ _ h => h) (Or.inl ⟨by rfl, ?_⟩) hS ?_
      rotate_left
      focus (intro wq hSq; obtain ⟨hS1, hS2, hS3⟩ := hSq; go_simp; with_reducible rfl)
      try simp only [Act.put, List.getElem_toArray, List.getElem_cons_succ, List.getElem_cons_zero, List.setIfInBounds_toArray, List.set_cons_zero, List.set_cons_succ]
      refine AnyE.take (i := 2) (v := ?_) rfl (by kernel_rfl) (by kernel_rfl) (by kernel_rfl) (by kernel_rfl) (by kernel_rfl) (fun _ _ _ h => h) (Or.inl ⟨by rfl, ?_⟩) hS ?_
      rotate_left
      focus (intro wq hSq; obtain ⟨hS1, hS2, hS3⟩ := hSq; go_simp; with_reducible rfl)
      try simp only [Act.put, List.getElem_toArray, List.getElem_cons_succ, List.getElem_cons_zero, List.setIfInBounds_toArray, List.set_cons_zero, List.set_cons_succ]
      refine AnyE.take (i := 3) (v := ?_) rfl (by kernel_rfl) (by kernel_rfl) (by kernel_rfl) (by kernel_rfl) (by kernel_rfl) (fun _ _ _ h => h) (Or.inl ⟨by rfl, ?_⟩) hS ?_
      rotate_left
      focus (intro wq hSq; obtain ⟨hS1, hS2, hS3⟩ := hSq; go_simp; with_reducible rfl)
      try simp only [Act.put, List.getElem_toArray, List.getElem_cons_succ, List.getElem_cons_zero, List.setIfInBounds_toArray, List.set_cons_zero, List.set_cons_succ]
      refine AnyE.take (i := 4) (v := ?_) rfl (by kernel_rfl) (by kernel_rfl) (by kernel_rfl) (by kernel_rfl) (by kernel_rfl) (fun _ _ _ h => h) (Or.inl ⟨by rfl, ?_⟩) hS ?_
      rotate_left
      focus (intro wq hSq; obtain ⟨hS1, hS2, hS3⟩ := hSq; go_simp; with_reducible rfl)
      try simp only [Act.put, List.getElem_toArray, List.getElem_cons_succ, List.getElem_cons_zero, List.setIfInBounds_toArray, List.set_cons_zero, List.set_cons_succ]
      refine AnyE.take (i := 5) (v := ?_) rfl (by kernel_rfl) (by kernel_rfl) (by kernel_rfl) (by kernel_rfl) (by kernel_rfl) (fun _ _ _ h => h) (Or.inl ⟨by rfl, ?_⟩) hS ?_
      rotate_left
      focus (intro wq hSq; obtain ⟨hS1, hS2, hS3⟩ := hSq; go_simp; with_reducible rfl)
      try simp only [Act.put, List.getElem_toArray, List.getElem_cons_succ, List.getElem_cons_zero, List.setIfInBounds_toArray, List.set_cons_zero, List.set_cons_succ]
      refine AnyE.take (i := 6) (v := .agg #[.bool x.no, .int .i64 x.v.k, .int .i64 x.v.n, .string x.v.s, .slice xau x.l.length xcu, .slice xaf x.f.length xcf]) rfl (by kernel_rfl) (by kernel_rfl) (by kernel_rfl) (by kernel_rfl) (by kernel_rfl) (fun _ _ _ h => h) (yields_load 29 _ rfl rfl b1 (off1 + k * 6) rfl #[.bool x.no, .int .i64 x.v.k, .int .i64 x.v.n, .string x.v.s, .slice xau x.l.length xcu, .slice xaf x.f.length xcf] _ (fun w h => h.2.2) Tryz.underlying29 rfl (by kernel_rfl)) hS ?_
      try simp only [Act.put, List.getElem_toArray, List.getElem_cons_succ, List.getElem_cons_zero, List.setIfInBounds_toArray, List.set_cons_zero, List.set_cons_succ]
      refine AnyE.take (i := 7) (v := ?_) rfl (by kernel_rfl) (by kernel_rfl) (by kernel_rfl) (by kernel_rfl) (by kernel_rfl) (fun _ _ _ h => h) (Or.inl ⟨by rfl, ?_⟩) hS ?_
      rotate_left
      focus (intro wq hSq; obtain ⟨hS1, hS2, hS3⟩ := hSq; go_simp; with_reducible rfl)
      try simp only [Act.put, List.getElem_toArray, List.getElem_cons_succ, List.getElem_cons_zero, List.setIfInBounds_toArray, List.set_cons_zero, List.set_cons_succ]
      refine AnyE.one (i := 8) (by kernel_rfl) rfl rfl ?_
      intro K hK
      simp only [List.getElem_toArray, List.getElem_cons_succ, List.getElem_cons_zero]
      go_simp
      refine HCL.out.mono ?_; rintro e w4 ⟨v8, rfl, ho8, hb4⟩
      replace RAr := Lib.hid (row_keep hb4 RAr.out); replace RBr := Lib.hid (row_keep hb4 RBr.out)
      replace HBr := Lib.hid (HBr.out.trans (hb4.mono HBr.out.size)); replace HOW := Lib.hid (own_blw HOW.out hb4); have HO8 := Lib.hid ho8
      have hS9 := (⟨rowc RAr.out, rowc RBr.out 4, fun j v hj => (hb4.cell (p := ⟨b1, off1 + k * 6 + j, none⟩) (block_lt_of_cell (HCX.out j v hj))).trans (HCX.out j v hj)⟩ : (fun w' => (∀ j_1, w'.cell? ⟨w.heap.size, j_1, none⟩ = (#[.int .i64 n.id, .string n.name, .int .i64 n.rep, .int .i64 n.kind, .slice au ns cu] : Array Value)[j_1]?) ∧ w'.cell? ⟨w.heap.size + 1, 4, none⟩ = some (.slice (some ⟨b1, off1, none⟩) nl cl) ∧ (∀ (j : Nat) (v : Value), (#[.bool x.no, .int .i64 x.v.k, .int .i64 x.v.n, .string x.v.s, .slice xau x.l.length xcu, .slice xaf x.f.length xcf] : Array Value)[j]? = some v → w'.cell? ⟨b1, off1 + k * 6 + j, none⟩ = some v)) w4)
      refine hK _ _ (fun _ => hS9) ?_
      clear hK K hS
      have hS := hS9
      clear hS9
      replace HCX := Lib.hid hS.2.2
      clear ho8 hb4 HCL
      try simp only [Act.put, List.getElem_toArray, List.getElem_cons_succ, List.getElem_cons_zero, List.setIfInBounds_toArray, List.set_cons_zero, List.set_cons_succ]
      refine AnyE.one (i := 9) (by kernel_rfl) rfl rfl ?_
      intro K hK
      simp only [List.getElem_toArray, List.getElem_cons_succ, List.getElem_cons_zero]
      refine wp_appV2 (.tmp 29) (.tmp 37) rfl w1.heap.size v9 (walkVL n id (d.l.take k)) ?_ HOW.out v8 (walkV n id true x) ?_ (IsVals.of_own HO8.out) HLEN.out HBr.out.size ?_
      focus (go_simp)
      focus (go_simp)
      intro v5 w5 ho5 hg5
      have hbg := (Below.refl w1.heap.size w4).grown hg5 HBr.out.size (fun q hq => (HOW.out.lt q hq).1)
      rw [← HVT.out] at ho5
      have HO5 := Lib.hid ho5; replace HBr := Lib.hid (HBr.out.trans hbg)
      have hza := HZ1.out
      replace RAr := Lib.hid (row_below hbg RAr.out (by omega)); replace RBr := Lib.hid (row_below hbg RBr.out (by omega))
      have hS9 := (⟨rowc RAr.out, rowc RBr.out 4, fun j v hj => (hbg.cell (p := ⟨b1, off1 + k * 6 + j, none⟩) (by have := HPB1.out; show b1 < _; omega)).trans (HCX.out j v hj)⟩ : (fun w' => (∀ j_1, w'.cell? ⟨w.heap.size, j_1, none⟩ = (#[.int .i64 n.id, .string n.name, .int .i64 n.rep, .int .i64 n.kind, .slice au ns cu] : Array Value)[j_1]?) ∧ w'.cell? ⟨w.heap.size + 1, 4, none⟩ = some (.slice (some ⟨b1, off1, none⟩) nl cl) ∧ (∀ (j : Nat) (v : Value), (#[.bool x.no, .int .i64 x.v.k, .int .i64 x.v.n, .string x.v.s, .slice xau x.l.length xcu, .slice xaf x.f.length xcf] : Array Value)[j]? = some v → w'.cell? ⟨b1, off1 + k * 6 + j, none⟩ = some v)) w5)
      refine hK _ _ (fun _ => hS9) ?_
      clear hK K hS ho5 hg5 hbg hza
      have hS := hS9; clear hS9
      try simp only [Act.put, List.getElem_toArray, List.getElem_cons_succ, List.getElem_cons_zero, List.setIfInBounds_toArray, List.set_cons_zero, List.set_cons_succ]
      refine AnyE.take (i := 10) (v := ?_) rfl (by kernel_rfl) (by kernel_rfl) (by kernel_rfl) (by kernel_rfl) (by kernel_rfl) (fun _ _ _ h => h) (Or.inl ⟨by rfl, ?_⟩) hS ?_
      rotate_left
      focus (intro wq hSq; obtain ⟨hS1, hS2, hS3⟩ := hSq; go_simp; with_reducible rfl)
      try simp only [Act.put, List.getElem_toArray, List.getElem_cons_succ, List.getElem_cons_zero, List.setIfInBounds_toArray, List.set_cons_zero, List.set_cons_succ]
      refine AnyE.done (by kernel_rfl) ?_ _
      clear hS
      have hlb := HLB.out
      go_wp2_with fail
      go_roundw
      case rel => exact ⟨k + 1, v5, Hlt.out, by go_num, rfl, HO5.out, HBr.out⟩
      case measure => have := Hlt.out; simp [intOf]; omega
  rw [if_neg hl3] at eq1
  have HEQ := Lib.hid eq1
  have hd3 : ((n.rep : Int) == 3) = false ∨ (((n.rep : Int) == 3) = true ∧ one = true) := by
    by_cases h : n.rep = 3
    · exact .inr ⟨by rw [h]; rfl, by simpa [h] using hl3⟩
    · exact .inl (by simpa using h)
  have hlon : lonely n one d := by
    by_cases h1 : one = true
    · exact .inl h1
    · have h3 : n.rep ≠ 3 := fun h => hl3 (by simp [h]; cases one <;> simp_all)
      have := HR0.out.1; have := HR0.out.2.1
      rcases (show n.rep = 1 ∨ n.rep = 2 by omega) with h | h
      · exact .inr (.inl h)
      · exact .inr (.inr ⟨h, HNO.out⟩)
  have HLON := Lib.hid hlon
  clear eq1 hl3 hlon
  rcases hd3 with d3 | ⟨d3, rfl⟩
  all_goals
    by_cases hk0 : n.kind = 0
    case neg =>
      have dk0 : ((n.kind : Int) != 0) = true := by simpa using hk0
      have eq1 := HEQ.out
      rw [if_neg hk0] at eq1
      have hnf0 : nf = 0 := by
        have h := HZ.out
        rw [datE_leaf HLON.out hk0] at h
        split at h
        · rename_i hb
          unfold bareB at hb
          simp only [Bool.and_eq_true, Bool.or_eq_true] at hb
          have := hb.2
          rw [← HNF.out]
          cases hq : d.f with
          | nil => rfl
          | cons a r => rw [hq] at this; simp at this
        · omega
      subst hnf0
      clear hk0 HEQ
      by_cases hid : n.id = id
      case neg =>
        have did : ((n.id : Int) == id) = false := by simpa using hid
        rw [if_neg hid] at eq1
        subst eq1
        clear hid
        go_wp2_with fail
        obtain ⟨w2, hw2⟩ : ∃ w2, w2 = w1 := ⟨_, rfl⟩
        go_loopw [9, 11] (fun s9 i wr => s9 = .slice none 0 0 ∧ i = .int .i64 0 ∧ wr = w1) (fun _ _ _ => 0)
        case atStart => exact ⟨rfl, rfl, rfl⟩
        case round =>
          obtain ⟨rfl, rfl, rfl⟩ := hrel
          go_wp2_with fail
          go_ret
          exact ⟨_, rfl, World.ownsRow_nil _ _ _ _, HW.out⟩
      have did : ((n.id : Int) == id) = true := by simpa using hid
      rw [if_pos hid] at eq1
      subst eq1
      obtain ⟨i0, hi, hz0, hz1, hz2⟩ := val_infoB
      have h64 : (([] : List Val).length + 1) * 32 ≤ 140737488355328 := by decide
      have h63 : ([] : List Val).length + 1 ≤ maxLen := by decide
      clear hid
      go_wp2_with (at_builtin; refine wpList_pushRow rfl _ _ 46 rfl w1.heap.size 26 i0 _ 3 32 Tryz.underlying46 hi hz0 hz1 hz2 rfl (by decide) valCells (fun _ => rfl) (fun y u hu => by simp only [valCells, List.mem_cons, List.not_mem_nil, or_false] at hu; rcases hu with rfl | rfl | rfl <;> rfl) _ ([] : List Val) rfl (World.ownsRow_nil _ _ _ _) _ _ rfl rfl h63 h64 (Nat.le_refl _) d.v _ rfl ?_; intro v' w5 hown' hgr _; have HO5 := Lib.hid hown'; have HB5 := Lib.hid (grow_below (World.ownsRow_nil w1 w1.heap.size 26 3) hgr (Nat.le_refl _)); have RB5 := Lib.hid (row_keep HB5.out RB.out); have cB5 := rowc RB5.out; clear hown' hgr)
      clear cA cA3 cB
      go_loopw [9, 11] (fun s9 i wr => s9 = v' ∧ i = .int .i64 0 ∧ wr = w5) (fun _ _ _ => 0)
      case atStart => exact ⟨rfl, rfl, rfl⟩
      case round =>
        obtain ⟨hs9, rfl, rfl⟩ := hrel
        subst hs9
        go_wp2_with fail
        go_ret
        exact ⟨_, rfl, own_baseN HO5.out HW.out.size, HW.out.trans (HB5.out.mono HW.out.size)⟩
    have dk0 : ((n.kind : Int) != 0) = false := by simpa using hk0
    have eq1 := HEQ.out
    rw [if_pos hk0] at eq1
    have hzg : nf = ns ∧ datEF n.sub d.f = 0 := by
      have h := HZ.out
      rw [datE_group HLON.out hk0, HNF.out, HNS.out] at h
      split at h
      · split at h
        · exact ⟨by assumption, h⟩
        · omega
      · omega
    obtain ⟨rfl, hzf⟩ := hzg
    have HZF := Lib.hid (datEF_zero _ _ hzf)
    have HEQ2 := Lib.hid eq1
    obtain ⟨bid, hbid⟩ : ∃ bid, ((n.id : Int) == id) = bid := ⟨_, rfl⟩
    clear HEQ eq1 hk0 hzf
    cases bid
    all_goals
      go_wp2_with fail
      clear cA cB cA3 d3
      go_loopw [9, 11] (fun s9 i wr => ∃ (k : Nat) (v9 : Value), k ≤ nf ∧ i = .int .i64 (k : Nat) ∧ v9 = s9 ∧ Hid (wr.ownsRow w1.heap.size 26 3 v9 (walkVF (n.sub.take k) id (d.f.take k)).length ((walkVF (n.sub.take k) id (d.f.take k)).flatMap valCells)) ∧ Hid (Below w1.heap.size w1 wr)) (fun _ i _ => nf - (intOf i).toNat)
      case atStart => exact ⟨0, _, Nat.zero_le _, rfl, rfl, by rw [List.take_zero, List.take_zero]; show World.ownsRow _ _ _ _ _ (walkVF [] id []).length ((walkVF [] id []).flatMap valCells); simp only [walkVF]; exact World.ownsRow_nil _ _ _ _, Below.refl _ _⟩
      case round =>
        obtain ⟨k, v9, hk, rfl, hv9, HOW, HBr⟩ := hrel
        subst hv9
        have RAr := Lib.hid (row_keep HBr.out RA.out); have RBr := Lib.hid (row_keep HBr.out RB.out)
        have cB5 : wr.cell? ⟨w.heap.size + 1, 5, none⟩ = some (.slice af nf cf) := rowc RBr.out 5
        by_cases hlt : k < nf
        case neg =>
          obtain rfl : k = nf := Nat.le_antisymm hk (Nat.le_of_not_lt hlt)
          have hq := HOW.out
          rw [List.take_of_length_le (Nat.le_of_eq HNF.out), List.take_of_length_le (Nat.le_of_eq HNS.out), HEQ2.out] at hq
          have HQ := Lib.hid hq
          have dk : decide (k < k) = false := by simp
          clear hlt hk hq
          go_wp2_with fail
          go_ret
          exact ⟨v9, rfl, own_baseN HQ.out HW.out.size, HW.out.trans (HBr.out.mono HW.out.size)⟩
        obtain ⟨x, hx⟩ : ∃ x, d.f[k]? = some x := ⟨_, List.getElem?_eq_getElem (by rw [HNF.out]; exact hlt)⟩
        obtain ⟨y, hy⟩ : ∃ y, n.sub[k]? = some y := ⟨_, List.getElem?_eq_getElem (by rw [HNS.out]; exact hlt)⟩
        have hxm : x ∈ d.f := List.mem_of_getElem? hx
        have hym : y ∈ n.sub := List.mem_of_getElem? hy
        have hbw := HW.out.trans (HBr.out.mono HW.out.size)
        obtain ⟨b1, off1, h17, hPb1, hb1, hat1⟩ := (HLf.out.under hbw).at (by rw [HNF.out]; omega)
        subst h17
        obtain ⟨xu, xt, hcx, hu, ht⟩ := hat1 k x hx
        obtain ⟨b0, off0, h18, hPb0, hb0, hat0⟩ := (HN.out.under hbw).at (by rw [HNS.out]; omega)
        subst h18
        obtain ⟨yu, hcy, hny⟩ := hat0 k y hy
        obtain ⟨xau, xcu, rfl⟩ := hu.form
        obtain ⟨xaf, xcf, rfl⟩ := ht.form
        obtain ⟨yau, ycu, rfl⟩ := hny.form
        have hI := HIF.out x hxm y (.slice yau y.sub.length ycu) (.slice xau x.l.length xcu) (.slice xaf x.f.length xcf) false
        have hvt := walkVF_take id n.sub d.f k y x hy hx
        have hlen : ((walkVF (n.sub.take k) id (d.f.take k)).length + (walkV y id false x).length) * 32 ≤ 140737488355328 := by
          have h1 := HCAP.out
          have h2 : (walkVF (n.sub.take (k + 1)) id (d.f.take (k + 1))).length ≤ R.length := by
            rw [← HEQ2.out]; exact walkVF_pre id _ _ _
          rw [hvt, List.length_append] at h2
          exact Nat.le_trans (Nat.mul_le_mul_right 32 h2) h1
        have HVT := Lib.hid hvt; have HLEN := Lib.hid hlen
        unfold DtAt dtA at hcx
        unfold NdAt ndA at hcy
        have HCX := Lib.hid hcx; have HCY := Lib.hid hcy; have HI := Lib.hid hI; have HU := Lib.hid hu; have HT := Lib.hid ht; have HNY := Lib.hid hny; have HPB0 := Lib.hid (show b0 < w.heap.size from hPb0); have HX := Lib.hid hx; have HY := Lib.hid hy; have HXM := Lib.hid hxm; have HYM := Lib.hid hym
        have Hlt := Lib.hid hlt; have HBW := Lib.hid hbw; have HPB1 := Lib.hid (show b1 < w.heap.size from hPb1)
        have hin : (k : Int) < (nf : Int) := Int.ofNat_lt.2 hlt
        have dk : decide (k < nf) = true := decide_eq_true hlt
        clear hx hy hxm hym hbw hat0 hat1 hcx hcy hu ht hny hI hlt hk hPb0 hPb1 hb0 hb1 hvt hlen
        go_upto_region 15 with fail
        clear cB5
        refine AnyE.region (S := fun w' => w'.cell? ⟨w.heap.size, 4, none⟩ = some (.slice (some ⟨b0, off0, none⟩) nf cu) ∧ w'.cell? ⟨w.heap.size + 1, 5, none⟩ = some (.slice (some ⟨b1, off1, none⟩) nf cf) ∧ (∀ (j : Nat) (v : Value), (#[.bool x.no, .int .i64 x.v.k, .int .i64 x.v.n, .string x.v.s, .slice xau x.l.length xcu, .slice xaf x.f.length xcf] : Array Value)[j]? = some v → w'.cell? ⟨b1, off1 + k * 6 + j, none⟩ = some v) ∧ (∀ (j : Nat) (v : Value), (#[.int .i64 y.id, .string y.name, .int .i64 y.rep, .int .i64 y.kind, .slice yau y.sub.length ycu] : Array Value)[j]? = some v → w'.cell? ⟨b0, off0 + k * 5 + j, none⟩ = some v)) (E := []) (by kernel_rfl) ?_
        have hbx := (Below.refl wr.heap.size wr).drew
        have hbw3 := HBW.out.trans (hbx.mono HBW.out.size)
        have hcl := HI.out wr.drew ((HNY.out.under (hbx.mono HBW.out.size)).mono fun b hb _ => Nat.lt_of_lt_of_le hb hbw3.size) (fun z hz => HO.out z (by rw [nodes_eq]; exact List.mem_cons_of_mem _ (nodesL_mem HYM.out hz))) (fun z hz => HR.out z (by rw [nodes_eq]; exact List.mem_cons_of_mem _ (nodesL_mem HYM.out hz))) ((HU.out.under (hbx.mono HBW.out.size)).mono fun b hb _ => Nat.lt_of_lt_of_le hb hbw3.size) ((HT.out.under (hbx.mono HBW.out.size)).mono fun b hb _ => Nat.lt_of_lt_of_le hb hbw3.size) (fun z hz => HDf.out z (dtsL_mem HXM.out hz)) (HZF.out k y x HY.out HX.out) (by have := HLEN.out; omega)
        replace RBr := Lib.hid (row_keep hbx RBr.out); replace RAr := Lib.hid (row_keep hbx RAr.out); replace HBr := Lib.hid (HBr.out.trans (hbx.mono HBr.out.size)); replace HOW := Lib.hid (own_blw HOW.out hbx)
        replace HBW := Lib.hid hbw3
        have hS := (⟨rowc RAr.out 4, rowc RBr.out 5, fun j v hj => (hbx.cell (p := ⟨b1, off1 + k * 6 + j, none⟩) (block_lt_of_cell (HCX.out j v hj))).trans (HCX.out j v hj), fun j v hj => (hbx.cell (p := ⟨b0, off0 + k * 5 + j, none⟩) (block_lt_of_cell (HCY.out j v hj))).trans (HCY.out j v hj)⟩ : (fun w' => w'.cell? ⟨w.heap.size, 4, none⟩ = some (.slice (some ⟨b0, off0, none⟩) nf cu) ∧ w'.cell? ⟨w.heap.size + 1, 5, none⟩ = some (.slice (some ⟨b1, off1, none⟩) nf cf) ∧ (∀ (j : Nat) (v : Value), (#[.bool x.no, .int .i64 x.v.k, .int .i64 x.v.n, .string x.v.s, .slice xau x.l.length xcu, .slice xaf x.f.length xcf] : Array Value)[j]? = some v → w'.cell? ⟨b1, off1 + k * 6 + j, none⟩ = some v) ∧ (∀ (j : Nat) (v : Value), (#[.int .i64 y.id, .string y.name, .int .i64 y.rep, .int .i64 y.kind, .slice yau y.sub.length ycu] : Array Value)[j]? = some v → w'.cell? ⟨b0, off0 + k * 5 + j, none⟩ = some v)) wr.drew)
        have HCL := Lib.hid hcl
        have hcx2 := hS.2.2.1
        replace HCX := Lib.hid hcx2; clear hcx2
        have hcy2 := hS.2.2.2
        replace HCY := Lib.hid hcy2; clear hcy2
        clear hbx hbw3 hcl
        generalize wr.drew = wd at *
        refine AnyE.take (i := 0) (v := ?_) rfl (by kernel_rfl) (by kernel_rfl) (by kernel_rfl) (by kernel_rfl) (by kernel_rfl) (fun _ _ _ h => h) (Or.inl ⟨by rfl, ?_⟩) hS ?_
        rotate_left
        focus (intro wq hSq; obtain ⟨hS1, hS2, hS3, hS4⟩ := hSq; go_simp; with_reducible rfl)
        try simp only [Act.put, List.getElem_toArray, List.getElem_cons_succ, List.getElem_cons_zero, List.setIfInBounds_toArray, List.set_cons_zero, List.set_cons_succ]
        refine AnyE.take (i := 1) (v := ?_) rfl (by kernel_rfl) (by kernel_rfl) (by kernel_rfl) (by kernel_rfl) (by kernel_rfl) (fun _ _ _ h => h) (Or.inl ⟨by rfl, ?_⟩) hS ?_
        rotate_left
        focus (intro wq hSq; obtain ⟨hS1, hS2, hS3, hS4⟩ := hSq; go_simp; with_reducible rfl)
        try simp only [Act.put, List.getElem_toArray, List.getElem_cons_succ, List.getElem_cons_zero, List.setIfInBounds_toArray, List.set_cons_zero, List.set_cons_succ]
        refine AnyE.take (i := 2) (v := ?_) rfl (by kernel_rfl) (by kernel_rfl) (by kernel_rfl) (by kernel_rfl) (by kernel_rfl) (fun _ _ _ h => h) (Or.inl ⟨by rfl, ?_⟩) hS ?_
        rotate_left
        focus (intro wq hSq; obtain ⟨hS1, hS2, hS3, hS4⟩ := hSq; go_simp; with_reducible rfl)
        try simp only [Act.put, List.getElem_toArray, List.getElem_cons_succ, List.getElem_cons_zero, List.setIfInBounds_toArray, List.set_cons_zero, List.set_cons_succ]
        refine AnyE.take (i := 3) (v := ?_) rfl (by kernel_rfl) (by kernel_rfl) (by kernel_rfl) (by kernel_rfl) (by kernel_rfl) (fun _ _ _ h => h) (Or.inl ⟨by rfl, ?_⟩) hS ?_
        rotate_left
        focus (intro wq hSq; obtain ⟨hS1, hS2, hS3, hS4⟩ := hSq; go_simp; with_reducible rfl)
        try simp only [Act.put, List.getElem_toArray, List.getElem_cons_succ, List.getElem_cons_zero, List.setIfInBounds_toArray, List.set_cons_zero, List.set_cons_succ]
        refine AnyE.take (i := 4) (v := ?_) rfl (by kernel_rfl) (by kernel_rfl) (by kernel_rfl) (by kernel_rfl) (by kernel_rfl) (fun _ _ _ h => h) (Or.inl ⟨by rfl, ?_⟩) hS ?_
        rotate_left
        focus (intro wq hSq; obtain ⟨hS1, hS2, hS3, hS4⟩ := hSq; go_simp; with_reducible rfl)
        try simp only [Act.put, List.getElem_toArray, List.getElem_cons_succ, List.getElem_cons_zero, List.setIfInBounds_toArray, List.set_cons_zero, List.set_cons_succ]
        refine AnyE.take (i := 5) (v := .agg #[.int .i64 y.id, .string y.name, .int .i64 y.rep, .int .i64 y.kind, .slice yau y.sub.length ycu]) rfl (by kernel_rfl) (by kernel_rfl) (by kernel_rfl) (by kernel_rfl) (by kernel_rfl) (fun _ _ _ h => h) (yields_load 24 _ rfl rfl b0 (off0 + k * 5) rfl #[.int .i64 y.id, .string y.name, .int .i64 y.rep, .int .i64 y.kind, .slice yau y.sub.length ycu] _ (fun w h => h.2.2.2) Tryz.underlying24 rfl (by kernel_rfl)) hS ?_
        try simp only [Act.put, List.getElem_toArray, List.getElem_cons_succ, List.getElem_cons_zero, List.setIfInBounds_toArray, List.set_cons_zero, List.set_cons_succ]
        refine AnyE.take (i := 6) (v := ?_) rfl (by kernel_rfl) (by kernel_rfl) (by kernel_rfl) (by kernel_rfl) (by kernel_rfl) (fun _ _ _ h => h) (Or.inl ⟨by rfl, ?_⟩) hS ?_
        rotate_left
        focus (intro wq hSq; obtain ⟨hS1, hS2, hS3, hS4⟩ := hSq; go_simp; with_reducible rfl)
        try simp only [Act.put, List.getElem_toArray, List.getElem_cons_succ, List.getElem_cons_zero, List.setIfInBounds_toArray, List.set_cons_zero, List.set_cons_succ]
        refine AnyE.take (i := 7) (v := ?_) rfl (by kernel_rfl) (by kernel_rfl) (by kernel_rfl) (by kernel_rfl) (by kernel_rfl) (fun _ _ _ h => h) (Or.inl ⟨by rfl, ?_⟩) hS ?_
        rotate_left
        focus (intro wq hSq; obtain ⟨hS1, hS2, hS3, hS4⟩ := hSq; go_simp; with_reducible rfl)
        try simp only [Act.put, List.getElem_toArray, List.getElem_cons_succ, List.getElem_cons_zero, List.setIfInBounds_toArray, List.set_cons_zero, List.set_cons_succ]
        refine AnyE.take (i := 8) (v := ?_) rfl (by kernel_rfl) (by kernel_rfl) (by kernel_rfl) (by kernel_rfl) (by kernel_rfl) (fun _ _ _ h => h) (Or.inl ⟨by rfl, ?_⟩) hS ?_
        rotate_left
        focus (intro wq hSq; obtain ⟨hS1, hS2, hS3, hS4⟩ := hSq; go_simp; with_reducible rfl)
        try simp only [Act.put, List.getElem_toArray, List.getElem_cons_succ, List.getElem_cons_zero, List.setIfInBounds_toArray, List.set_cons_zero, List.set_cons_succ]
        refine AnyE.take (i := 9) (v := ?_) rfl (by kernel_rfl) (by kernel_rfl) (by kernel_rfl) (by kernel_rfl) (by kernel_rfl) (fun _ _ _ h => h) (Or.inl ⟨by rfl, ?_⟩) hS ?_
        rotate_left
        focus (intro wq hSq; obtain ⟨hS1, hS2, hS3, hS4⟩ := hSq; go_simp; with_reducible rfl)
        try simp only [Act.put, List.getElem_toArray, List.getElem_cons_succ, List.getElem_cons_zero, List.setIfInBounds_toArray, List.set_cons_zero, List.set_cons_succ]
        refine AnyE.take (i := 10) (v := .agg #[.bool x.no, .int .i64 x.v.k, .int .i64 x.v.n, .string x.v.s, .slice xau x.l.length xcu, .slice xaf x.f.length xcf]) rfl (by kernel_rfl) (by kernel_rfl) (by kernel_rfl) (by kernel_rfl) (by kernel_rfl) (fun _ _ _ h => h) (yields_load 29 _ rfl rfl b1 (off1 + k * 6) rfl #[.bool x.no, .int .i64 x.v.k, .int .i64 x.v.n, .string x.v.s, .slice xau x.l.length xcu, .slice xaf x.f.length xcf] _ (fun w h => h.2.2.1) Tryz.underlying29 rfl (by kernel_rfl)) hS ?_
        try simp only [Act.put, List.getElem_toArray, List.getElem_cons_succ, List.getElem_cons_zero, List.setIfInBounds_toArray, List.set_cons_zero, List.set_cons_succ]
        refine AnyE.take (i := 11) (v := ?_) rfl (by kernel_rfl) (by kernel_rfl) (by kernel_rfl) (by kernel_rfl) (by kernel_rfl) (fun _ _ _ h => h) (Or.inl ⟨by rfl, ?_⟩) hS ?_
        rotate_left
        focus (intro wq hSq; obtain ⟨hS1, hS2, hS3, hS4⟩ := hSq; go_simp; with_reducible rfl)
        try simp only [Act.put, List.getElem_toArray, List.getElem_cons_succ, List.getElem_cons_zero, List.setIfInBounds_toArray, List.set_cons_zero, List.set_cons_succ]
        refine AnyE.one (i := 12) (by kernel_rfl) rfl rfl ?_
        intro K hK
        simp only [List.getElem_toArray, List.getElem_cons_succ, List.getElem_cons_zero]
        go_simp
        refine HCL.out.mono ?_; rintro e w4 ⟨v8, rfl, ho8, hb4⟩
        replace RAr := Lib.hid (row_keep hb4 RAr.out); replace RBr := Lib.hid (row_keep hb4 RBr.out)
        replace HBr := Lib.hid (HBr.out.trans (hb4.mono HBr.out.size)); replace HOW := Lib.hid (own_blw HOW.out hb4); have HO8 := Lib.hid ho8
        have hS9 := (⟨rowc RAr.out 4, rowc RBr.out 5, fun j v hj => (hb4.cell (p := ⟨b1, off1 + k * 6 + j, none⟩) (block_lt_of_cell (HCX.out j v hj))).trans (HCX.out j v hj), fun j v hj => (hb4.cell (p := ⟨b0, off0 + k * 5 + j, none⟩) (block_lt_of_cell (HCY.out j v hj))).trans (HCY.out j v hj)⟩ : (fun w' => w'.cell? ⟨w.heap.size, 4, none⟩ = some (.slice (some ⟨b0, off0, none⟩) nf cu) ∧ w'.cell? ⟨w.heap.size + 1, 5, none⟩ = some (.slice (some ⟨b1, off1, none⟩) nf cf) ∧ (∀ (j : Nat) (v : Value), (#[.bool x.no, .int .i64 x.v.k, .int .i64 x.v.n, .string x.v.s, .slice xau x.l.length xcu, .slice xaf x.f.length xcf] : Array Value)[j]? = some v → w'.cell? ⟨b1, off1 + k * 6 + j, none⟩ = some v) ∧ (∀ (j : Nat) (v : Value), (#[.int .i64 y.id, .string y.name, .int .i64 y.rep, .int .i64 y.kind, .slice yau y.sub.length ycu] : Array Value)[j]? = some v → w'.cell? ⟨b0, off0 + k * 5 + j, none⟩ = some v)) w4)
        refine hK _ _ (fun _ => hS9) ?_
        clear hK K hS
        have hS := hS9
        clear hS9
        replace HCX := Lib.hid hS.2.2.1
        replace HCY := Lib.hid hS.2.2.2
        clear ho8 hb4 HCL
        try simp only [Act.put, List.getElem_toArray, List.getElem_cons_succ, List.getElem_cons_zero, List.setIfInBounds_toArray, List.set_cons_zero, List.set_cons_succ]
        refine AnyE.one (i := 13) (by kernel_rfl) rfl rfl ?_
        intro K hK
        simp only [List.getElem_toArray, List.getElem_cons_succ, List.getElem_cons_zero]
        refine wp_appV2 (.tmp 61) (.tmp 73) rfl w1.heap.size v9 (walkVF (n.sub.take k) id (d.f.take k)) ?_ HOW.out v8 (walkV y id false x) ?_ (IsVals.of_own HO8.out) HLEN.out HBr.out.size ?_
        focus (go_simp)
        focus (go_simp)
        intro v5 w5 ho5 hg5
        have hbg := (Below.refl w1.heap.size w4).grown hg5 HBr.out.size (fun q hq => (HOW.out.lt q hq).1)
        rw [← HVT.out] at ho5
        have HO5 := Lib.hid ho5; replace HBr := Lib.hid (HBr.out.trans hbg)
        have hza := HZ1.out
        replace RAr := Lib.hid (row_below hbg RAr.out (by omega)); replace RBr := Lib.hid (row_below hbg RBr.out (by omega))
        have hS9 := (⟨rowc RAr.out 4, rowc RBr.out 5, fun j v hj => (hbg.cell (p := ⟨b1, off1 + k * 6 + j, none⟩) (by have := HPB1.out; show b1 < _; omega)).trans (HCX.out j v hj), fun j v hj => (hbg.cell (p := ⟨b0, off0 + k * 5 + j, none⟩) (by have := HPB0.out; show b0 < _; omega)).trans (HCY.out j v hj)⟩ : (fun w' => w'.cell? ⟨w.heap.size, 4, none⟩ = some (.slice (some ⟨b0, off0, none⟩) nf cu) ∧ w'.cell? ⟨w.heap.size + 1, 5, none⟩ = some (.slice (some ⟨b1, off1, none⟩) nf cf) ∧ (∀ (j : Nat) (v : Value), (#[.bool x.no, .int .i64 x.v.k, .int .i64 x.v.n, .string x.v.s, .slice xau x.l.length xcu, .slice xaf x.f.length xcf] : Array Value)[j]? = some v → w'.cell? ⟨b1, off1 + k * 6 + j, none⟩ = some v) ∧ (∀ (j : Nat) (v : Value), (#[.int .i64 y.id, .string y.name, .int .i64 y.rep, .int .i64 y.kind, .slice yau y.sub.length ycu] : Array Value)[j]? = some v → w'.cell? ⟨b0, off0 + k * 5 + j, none⟩ = some v)) w5)
        refine hK _ _ (fun _ => hS9) ?_
        clear hK K hS ho5 hg5 hbg hza
        have hS := hS9; clear hS9
        try simp only [Act.put, List.getElem_toArray, List.getElem_cons_succ, List.getElem_cons_zero, List.setIfInBounds_toArray, List.set_cons_zero, List.set_cons_succ]
        refine AnyE.take (i := 14) (v := ?_) rfl (by kernel_rfl) (by kernel_rfl) (by kernel_rfl) (by kernel_rfl) (by kernel_rfl) (fun _ _ _ h => h) (Or.inl ⟨by rfl, ?_⟩) hS ?_
        rotate_left
        focus (intro wq hSq; obtain ⟨hS1, hS2, hS3, hS4⟩ := hSq; go_simp; with_reducible rfl)
        try simp only [Act.put, List.getElem_toArray, List.getElem_cons_succ, List.getElem_cons_zero, List.setIfInBounds_toArray, List.set_cons_zero, List.set_cons_succ]
        refine AnyE.done (by kernel_rfl) ?_ _
        clear hS
        have hfb := HFB.out
        go_wp2_with fail
        go_roundw
        case rel => exact ⟨k + 1, v5, Hlt.out, by go_num, rfl, HO5.out, HBr.out⟩
        case measure => have := Hlt.out; simp [intOf]; omega
end Go.Proofs.YthfljcpfcnddhaaGreatDoor
