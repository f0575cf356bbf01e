/- The walk of the document's DatumText (over ValueText's contract). Written by gen_dx3.py. -/
import Derived.Test.YthfljcpfcnddhaaGreatDoorDx1
namespace Go.Proofs.YthfljcpfcnddhaaGreatDoor
set_option linter.unusedVariables false
set_option linter.unusedSimpArgs false
open Go Go.RowKit Go.ChangeShapes

theorem join_snoc (L : List (List UInt8)) (sep x : List UInt8) (h : L ≠ []) : Lib.join (L ++ [x]) sep = Lib.join L sep ++ sep ++ x := by
  cases L with
  | nil => exact absurd rfl h
  | cons a r =>
    rw [List.cons_append, Lib.join_cons, Lib.join_cons]
    simp [Lib.joinTail, List.append_assoc]
theorem join_take_le (L : List (List UInt8)) (sep : List UInt8) (k : Nat) : (Lib.join (L.take k) sep).length ≤ (Lib.join L sep).length := by
  cases L with
  | nil => simp
  | cons a r =>
    cases k with
    | zero => simp [Lib.join_nil]
    | succ k =>
      rw [List.take_succ_cons, Lib.join_cons, Lib.join_cons, List.length_append, List.length_append]
      have := Lib.joinTail_take_le sep r k
      omega
theorem dtxtL_takeL (T : Val → List UInt8) (n : Nd) (l : List Dt) (k : Nat) : (dtxtL T n l).take k = dtxtL T n (l.take k) := by
  induction l generalizing k with
  | nil => simp [dtxtL]
  | cons a r ih => cases k with
    | zero => simp [dtxtL]
    | succ k => simp only [dtxtL, List.take_succ_cons, ih]
theorem dtxtF_takeF (T : Val → List UInt8) : ∀ (s : List Nd) (l : List Dt) (k : Nat), (dtxtF T s l).take k = dtxtF T (s.take k) (l.take k)
  | [], _, k => by simp [dtxtF]
  | a :: t, [], k => by cases k <;> simp [dtxtF]
  | a :: t, b :: r, 0 => by simp [dtxtF]
  | a :: t, b :: r, k + 1 => by simp only [dtxtF, List.take_succ_cons, dtxtF_takeF T t r k]
theorem ba4 (A : List UInt8) (s : ByteArray) (J : List UInt8) : (⟨A.toArray⟩ : ByteArray) ++ s ++ ⟨#[58]⟩ ++ ⟨J.toArray⟩ = ⟨(A ++ (s.data.toList ++ [58] ++ J)).toArray⟩ := by
  have h0 : (⟨s.data.toList.toArray⟩ : ByteArray) = s := by apply ByteArray.ext; simp
  have h1 := ba_app A s.data.toList
  rw [h0] at h1
  have h2 := ba_app (A ++ s.data.toList) [58]
  have h3 := ba_app (A ++ s.data.toList ++ [58]) J
  rw [h1, show (⟨#[58]⟩ : ByteArray) = ⟨[58].toArray⟩ from rfl, h2, h3]
  simp only [List.append_assoc]

set_option maxRecDepth 100000 in
set_option maxHeartbeats 64000000 in
theorem datumText_any (T : Val → List UInt8) (K : Int → Prop) (HT : ∀ (k : Int) (x : Val) (w1 : World), K k → okB k x = true → x.Ok → Calls Tryz.prog 41 #[.agg (valA x)] w1 (TextRet (T x) w1)) :
    ∀ (d : Dt) (n : Nd) (u ul uf : Value) (one : Bool) (w : World), IsNds (· < w.heap.size) w u n.sub → (∀ x ∈ nodes n, x.Ok1) → (∀ x ∈ nodes n, okRep x) → (∀ x ∈ nodes n, x.kind ≠ 0 → K x.kind) → IsDts (· < w.heap.size) w ul d.l → IsDts (· < w.heap.size) w uf d.f → (∀ x ∈ dts d, x.Ok1) → datE n one d = 0 →
    (∀ x ∈ nodes n, x.sub.length ≤ 1000000) → (dtxt T n one d).length ≤ 100000000000000 →
    Calls Tryz.prog 18 #[.agg (ndA n u), .agg (dtA d ul uf), .bool one] w (TextRet (dtxt T n one d) w) := by
  apply Dt.ind
  intro d IHl IHf n u ul uf one w hN hO hR hK hl hf hD hz hs4 hcap
  have hD0 := hD d (by rw [dts_eq]; exact List.mem_cons_self ..)
  have hR0 := hR n (by rw [nodes_eq]; exact List.mem_cons_self ..)
  have hK0 := hK n (by rw [nodes_eq]; exact List.mem_cons_self ..)
  have hDl : ∀ x ∈ dtsL d.l, x.Ok1 := fun x hx => hD x (by rw [dts_eq]; exact List.mem_cons_of_mem _ (List.mem_append_left _ hx))
  have hDf : ∀ x ∈ dtsL d.f, x.Ok1 := fun x hx => hD x (by rw [dts_eq]; exact List.mem_cons_of_mem _ (List.mem_append_right _ hx))
  have HVL := Lib.hid (fun (hk : n.kind ≠ 0) (ho : okB n.kind d.v = true) (w1 : World) => HT n.kind d.v w1 (hK0 hk) ho hD0.v)
  have HIL := Lib.hid IHl; have HIF := Lib.hid IHf; have HN := Lib.hid hN; have HO := Lib.hid hO; have HR := Lib.hid hR; have HKK := Lib.hid hK; have HLl := Lib.hid hl; have HLf := Lib.hid hf; have HDl := Lib.hid hDl; have HDf := Lib.hid hDf
  have HLB := Lib.hid hD0.l; have HFB := Lib.hid hD0.f; have HN4 := Lib.hid (hs4 n (by rw [nodes_eq]; exact List.mem_cons_self ..)); have HR0 := Lib.hid hR0; have HZ := Lib.hid hz; have HCAP := Lib.hid hcap
  have HS4 := Lib.hid hs4
  clear hs4 IHl IHf hN hO hR hK hDl hDf hD hD0 hR0 hK0 hz hcap HT
  obtain ⟨au, cu, rfl⟩ := HN.out.form
  obtain ⟨al, cl, rfl⟩ := hl.form
  obtain ⟨af, cf, rfl⟩ := hf.form
  clear hl hf
  obtain ⟨R, hRr⟩ : ∃ R, dtxt T n one d = R := ⟨_, rfl⟩
  rw [hRr] at HCAP ⊢
  have HRr := Lib.hid hRr
  clear hRr
  obtain ⟨ns, hns⟩ : ∃ ns, n.sub.length = ns := ⟨_, rfl⟩
  obtain ⟨nl, hnl⟩ : ∃ nl, d.l.length = nl := ⟨_, rfl⟩
  obtain ⟨nf, hnf⟩ : ∃ nf, d.f.length = nf := ⟨_, rfl⟩
  rw [hns] at HN HN4; rw [hnl] at HLl HLB; rw [hnf] at HLf HFB
  rw [hns, hnl, hnf]
  have HNS := Lib.hid hns; have HNL := Lib.hid hnl; have HNF := Lib.hid hnf
  clear hns hnl hnf
  unfold ndA dtA at *
  unfold valA at HVL
  obtain ⟨no, hno⟩ : ∃ no, d.no = no := ⟨_, rfl⟩
  rw [hno]
  have HNO := Lib.hid hno
  clear hno
  go_enter Tryz.func18, Tryz.ntmps18
  go_upto_region 1 with fail
  have hb0 := rows2 (w := w) (A := .cells #[.int .i64 n.id, .string n.name, .int .i64 n.rep, .int .i64 n.kind, .slice au ns cu] 24) (B := .cells #[.bool no, .int .i64 d.v.k, .int .i64 d.v.n, .string d.v.s, .slice al nl cl, .slice af nf cf] 29) (Below.refl _ _)
  generalize ((w.alloc (.cells #[.int .i64 n.id, .string n.name, .int .i64 n.rep, .int .i64 n.kind, .slice au ns cu] 24)).alloc (.cells #[.bool no, .int .i64 d.v.k, .int .i64 d.v.n, .string d.v.s, .slice al nl cl, .slice af nf cf] 29)) = w1 at *
  obtain ⟨rA, rB, hbw, hz1w⟩ := hb0
  have HW := Lib.hid hbw; have RA := Lib.hid rA; have RB := Lib.hid rB; have HZ1 := Lib.hid hz1w
  clear rA rB hbw hz1w
  have cA := rowc RA.out; have cB := rowc RB.out
  have eq1 := HRr.out
  rw [dtxt_eq, HNO.out] at eq1
  have HEQ := Lib.hid eq1
  clear eq1
  cases no with
  | true =>
    have h1 := HEQ.out
    rw [if_pos rfl] at h1
    subst h1
    go_wp2_with fail
    go_ret
    exact ⟨rfl, HW.out⟩
  | false =>
  have eq1 := HEQ.out
  rw [if_neg (by decide)] at eq1
  clear HEQ
  by_cases hl3 : (!one && decide (n.rep = 3)) = true
  · rw [if_pos hl3] at eq1
    have HEQ := Lib.hid eq1
    obtain ⟨rfl, hr3⟩ : one = false ∧ n.rep = 3 := by simpa using hl3
    have d3 : ((n.rep : Int) == 3) = true := by rw [hr3]; rfl
    have hzl : datEL n d.l = 0 ∧ nl ≤ 40 := by
      have h := HZ.out
      rw [datE_list hr3, HNL.out] at h
      split at h
      · split at h
        · omega
        · exact ⟨h, by omega⟩
      · omega
    have HZL := Lib.hid (datEL_zero n d.l hzl.1)
    clear eq1 hl3 hr3 hzl
    go_wp2_with fail
    clear cA cB d3
    go_loopw [7, 8] (fun sA i wr => ∃ (k : Nat) (A : List UInt8), k ≤ nl ∧ i = .int .i64 (k : Nat) ∧ sA = .string ⟨A.toArray⟩ ∧ Hid (A = [91] ++ Lib.join (dtxtL T n (d.l.take k)) [44]) ∧ Hid (Below w1.heap.size w1 wr)) (fun _ i _ => nl - (intOf i).toNat)
    case atStart => exact ⟨0, [91], Nat.zero_le _, rfl, rfl, by rw [List.take_zero]; rfl, Below.refl _ _⟩
    case round =>
      obtain ⟨k, A, hk, rfl, rfl, HA, HBr⟩ := hrel
      have RAr := Lib.hid (row_keep HBr.out RA.out); have RBr := Lib.hid (row_keep HBr.out RB.out)
      have cBF : wr.cell? ⟨w.heap.size + 1, 4, none⟩ = some (.slice al nl cl) := rowc RBr.out 4
      by_cases hlt : k < nl
      case neg =>
        obtain rfl : k = nl := Nat.le_antisymm hk (Nat.le_of_not_lt hlt)
        have hA := HA.out
        rw [List.take_of_length_le (Nat.le_of_eq HNL.out)] at hA
        have hR2 : A ++ [93] = R := by rw [hA, ← HEQ.out]
        have hs1 : ¬ 9223372036854775807 < A.length + 1 := by have := HCAP.out; rw [← hR2, List.length_append] at this; simp at this; omega
        have HR2 := Lib.hid hR2
        have dk : decide (k < k) = false := by simp
        clear hlt hk hA hR2
        go_wp2_with fail
        go_ret
        refine ⟨?_, HW.out.trans (HBr.out.mono HW.out.size)⟩
        rw [← HR2.out]
        exact congrArg (fun s => Ending.returned (Value.string s)) (ba_app A [93])
      obtain ⟨x, hx⟩ : ∃ x, d.l[k]? = some x := ⟨_, List.getElem?_eq_getElem (by rw [HNL.out]; exact hlt)⟩
      have hxm : x ∈ d.l := List.mem_of_getElem? hx
      have hbw := HW.out.trans (HBr.out.mono HW.out.size)
      obtain ⟨b1, off1, h17, hPb1, hb1, hat1⟩ := (HLl.out.under hbw).at (by rw [HNL.out]; omega)
      subst h17
      obtain ⟨xu, xt, hcx, hu, ht⟩ := hat1 k x hx
      obtain ⟨xau, xcu, rfl⟩ := hu.form
      obtain ⟨xaf, xcf, rfl⟩ := ht.form
      have hI := HIL.out x hxm n (.slice au ns cu) (.slice xau x.l.length xcu) (.slice xaf x.f.length xcf) true
      have hvt := dtxtL_take T n hx
      have hle := join_take_le (dtxtL T n d.l) [44] (k + 1)
      rw [dtxtL_takeL, hvt] at hle
      have hRl : R.length = 1 + (Lib.join (dtxtL T n d.l) [44]).length + 1 := by rw [← HEQ.out]; simp; omega
      have hAl : A.length = 1 + (Lib.join (dtxtL T n (d.l.take k)) [44]).length := by rw [HA.out]; simp; omega
      have hcap := HCAP.out
      unfold DtAt dtA at hcx
      have HCX := Lib.hid hcx; have HI := Lib.hid hI; have HU := Lib.hid hu; have HT := Lib.hid ht; have HX := Lib.hid hx; have HXM := Lib.hid hxm; have HVT := Lib.hid hvt
      have hkl : (dtxtL T n (d.l.take k)).length = k := by rw [dtxtL_len, List.length_take, HNL.out]; omega
      have Hlt := Lib.hid hlt; have HBW := Lib.hid hbw
      have hin : (k : Int) < (nl : Int) := Int.ofNat_lt.2 hlt
      have dk : decide (k < nl) = true := decide_eq_true hlt
      clear hxm hbw hat1 hcx hu ht hI hlt hPb1 hb1 hx
      by_cases hk0 : k = 0
      case pos =>
        subst hk0
        have hL0 : (dtxtL T n (d.l.take 0)) = [] := List.eq_nil_of_length_eq_zero hkl
        rw [hL0, List.nil_append, Lib.join_one] at hle
        rw [hL0] at hAl
        have hj0 : (Lib.join ([] : List (List UInt8)) [44]).length = 0 := rfl
        rw [hj0] at hAl
        have HLEN := Lib.hid (show (dtxt T n true x).length ≤ 100000000000000 by omega)
        have hs1 : ¬ 9223372036854775807 < A.length + (dtxt T n true x).length := by omega
        have HJ := Lib.hid (show [91] ++ Lib.join ((dtxtL T n (d.l.take 0)) ++ [dtxt T n true x]) [44] = A ++ (dtxt T n true x) by rw [HA.out, hL0, List.nil_append, Lib.join_one]; simp [Lib.join_nil])
        have d0 : decide ((0 : Nat) < 0) = false := by simp
        have hpos : 0 < nl := Hlt.out
        clear hle hRl hAl hcap hL0 hkl hk hj0
        go_upto_region 10 with fail
        clear cBF
        refine AnyE.region (S := fun w' => (∀ j_1, w'.cell? ⟨w.heap.size, j_1, none⟩ = (#[.int .i64 n.id, .string n.name, .int .i64 n.rep, .int .i64 n.kind, .slice au ns cu] : Array Value)[j_1]?) ∧ w'.cell? ⟨w.heap.size + 1, 4, none⟩ = some (.slice (some ⟨b1, off1, none⟩) nl cl) ∧ (∀ (j : Nat) (v : Value), (#[.bool x.no, .int .i64 x.v.k, .int .i64 x.v.n, .string x.v.s, .slice xau x.l.length xcu, .slice xaf x.f.length xcf] : Array Value)[j]? = some v → w'.cell? ⟨b1, off1 + 0 * 6 + j, none⟩ = some v)) (E := []) (by kernel_rfl) ?_
        have hbx := (Below.refl wr.heap.size wr).drew
        have hbw3 := HBW.out.trans (hbx.mono HBW.out.size)
        have hcl := HI.out wr.drew ((HN.out.under hbw3).mono fun b hb _ => Nat.lt_of_lt_of_le hb hbw3.size) HO.out HR.out HKK.out ((HU.out.under (hbx.mono HBW.out.size)).mono fun b hb _ => Nat.lt_of_lt_of_le hb hbw3.size) ((HT.out.under (hbx.mono HBW.out.size)).mono fun b hb _ => Nat.lt_of_lt_of_le hb hbw3.size) (fun z hz => HDl.out z (dtsL_mem HXM.out hz)) (HZL.out x HXM.out) HS4.out HLEN.out
        replace RBr := Lib.hid (row_keep hbx RBr.out); replace RAr := Lib.hid (row_keep hbx RAr.out); replace HBr := Lib.hid (HBr.out.trans (hbx.mono HBr.out.size))
        have hS := (⟨rowc RAr.out, rowc RBr.out 4, fun j v hj => (hbx.cell (p := ⟨b1, off1 + 0 * 6 + j, none⟩) (block_lt_of_cell (HCX.out j v hj))).trans (HCX.out j v hj)⟩ : (fun w' => (∀ j_1, w'.cell? ⟨w.heap.size, j_1, none⟩ = (#[.int .i64 n.id, .string n.name, .int .i64 n.rep, .int .i64 n.kind, .slice au ns cu] : Array Value)[j_1]?) ∧ w'.cell? ⟨w.heap.size + 1, 4, none⟩ = some (.slice (some ⟨b1, off1, none⟩) nl cl) ∧ (∀ (j : Nat) (v : Value), (#[.bool x.no, .int .i64 x.v.k, .int .i64 x.v.n, .string x.v.s, .slice xau x.l.length xcu, .slice xaf x.f.length xcf] : Array Value)[j]? = some v → w'.cell? ⟨b1, off1 + 0 * 6 + j, none⟩ = some v)) wr.drew)
        unfold TextRet strV at hcl
        have HCL := Lib.hid hcl
        replace HCX := Lib.hid hS.2.2
        clear hbx hbw3 hcl
        generalize wr.drew = wd at *
        refine AnyE.take (i := 0) (v := ?_) rfl (by kernel_rfl) (by kernel_rfl) (by kernel_rfl) (by kernel_rfl) (by kernel_rfl) (fun _ _ _ h => h) (Or.inl ⟨by rfl, ?_⟩) hS ?_
        rotate_left
        focus (intro wq hSq; obtain ⟨hS1, hS2, hS3⟩ := hSq; go_simp; with_reducible rfl)
        try simp only [Act.put, List.getElem_toArray, List.getElem_cons_succ, List.getElem_cons_zero, List.setIfInBounds_toArray, List.set_cons_zero, List.set_cons_succ]
        refine AnyE.take (i := 1) (v := ?_) rfl (by kernel_rfl) (by kernel_rfl) (by kernel_rfl) (by kernel_rfl) (by kernel_rfl) (fun _ _ _ h => h) (Or.inl ⟨by rfl, ?_⟩) hS ?_
        rotate_left
        focus (intro wq hSq; obtain ⟨hS1, hS2, hS3⟩ := hSq; go_simp; with_reducible rfl)
        try simp only [Act.put, List.getElem_toArray, List.getElem_cons_succ, List.getElem_cons_zero, List.setIfInBounds_toArray, List.set_cons_zero, List.set_cons_succ]
        refine AnyE.take (i := 2) (v := ?_) rfl (by kernel_rfl) (by kernel_rfl) (by kernel_rfl) (by kernel_rfl) (by kernel_rfl) (fun _ _ _ h => h) (Or.inl ⟨by rfl, ?_⟩) hS ?_
        rotate_left
        focus (intro wq hSq; obtain ⟨hS1, hS2, hS3⟩ := hSq; go_simp; with_reducible rfl)
        try simp only [Act.put, List.getElem_toArray, List.getElem_cons_succ, List.getElem_cons_zero, List.setIfInBounds_toArray, List.set_cons_zero, List.set_cons_succ]
        refine AnyE.take (i := 3) (v := ?_) rfl (by kernel_rfl) (by kernel_rfl) (by kernel_rfl) (by kernel_rfl) (by kernel_rfl) (fun _ _ _ h => h) (Or.inl ⟨by rfl, ?_⟩) hS ?_
        rotate_left
        focus (intro wq hSq; obtain ⟨hS1, hS2, hS3⟩ := hSq; go_simp; with_reducible rfl)
        try simp only [Act.put, List.getElem_toArray, List.getElem_cons_succ, List.getElem_cons_zero, List.setIfInBounds_toArray, List.set_cons_zero, List.set_cons_succ]
        refine AnyE.take (i := 4) (v := ?_) rfl (by kernel_rfl) (by kernel_rfl) (by kernel_rfl) (by kernel_rfl) (by kernel_rfl) (fun _ _ _ h => h) (Or.inl ⟨by rfl, ?_⟩) hS ?_
        rotate_left
        focus (intro wq hSq; obtain ⟨hS1, hS2, hS3⟩ := hSq; go_simp; with_reducible rfl)
        try simp only [Act.put, List.getElem_toArray, List.getElem_cons_succ, List.getElem_cons_zero, List.setIfInBounds_toArray, List.set_cons_zero, List.set_cons_succ]
        refine AnyE.take (i := 5) (v := ?_) rfl (by kernel_rfl) (by kernel_rfl) (by kernel_rfl) (by kernel_rfl) (by kernel_rfl) (fun _ _ _ h => h) (Or.inl ⟨by rfl, ?_⟩) hS ?_
        rotate_left
        focus (intro wq hSq; obtain ⟨hS1, hS2, hS3⟩ := hSq; go_simp; with_reducible rfl)
        try simp only [Act.put, List.getElem_toArray, List.getElem_cons_succ, List.getElem_cons_zero, List.setIfInBounds_toArray, List.set_cons_zero, List.set_cons_succ]
        refine AnyE.take (i := 6) (v := .agg #[.bool x.no, .int .i64 x.v.k, .int .i64 x.v.n, .string x.v.s, .slice xau x.l.length xcu, .slice xaf x.f.length xcf]) rfl (by kernel_rfl) (by kernel_rfl) (by kernel_rfl) (by kernel_rfl) (by kernel_rfl) (fun _ _ _ h => h) (yields_load 29 _ rfl rfl b1 (off1 + 0 * 6) rfl #[.bool x.no, .int .i64 x.v.k, .int .i64 x.v.n, .string x.v.s, .slice xau x.l.length xcu, .slice xaf x.f.length xcf] _ (fun w h => h.2.2) Tryz.underlying29 rfl (by kernel_rfl)) hS ?_
        try simp only [Act.put, List.getElem_toArray, List.getElem_cons_succ, List.getElem_cons_zero, List.setIfInBounds_toArray, List.set_cons_zero, List.set_cons_succ]
        refine AnyE.one (i := 7) (by kernel_rfl) rfl rfl ?_
        intro K hK
        simp only [List.getElem_toArray, List.getElem_cons_succ, List.getElem_cons_zero]
        go_simp
        refine HCL.out.mono ?_; rintro e w4 ⟨rfl, hb4⟩
        replace RAr := Lib.hid (row_keep hb4 RAr.out); replace RBr := Lib.hid (row_keep hb4 RBr.out); replace HBr := Lib.hid (HBr.out.trans (hb4.mono HBr.out.size))
        have hS9 := (⟨rowc RAr.out, rowc RBr.out 4, fun j v hj => (hb4.cell (p := ⟨b1, off1 + 0 * 6 + j, none⟩) (block_lt_of_cell (HCX.out j v hj))).trans (HCX.out j v hj)⟩ : (fun w' => (∀ j_1, w'.cell? ⟨w.heap.size, j_1, none⟩ = (#[.int .i64 n.id, .string n.name, .int .i64 n.rep, .int .i64 n.kind, .slice au ns cu] : Array Value)[j_1]?) ∧ w'.cell? ⟨w.heap.size + 1, 4, none⟩ = some (.slice (some ⟨b1, off1, none⟩) nl cl) ∧ (∀ (j : Nat) (v : Value), (#[.bool x.no, .int .i64 x.v.k, .int .i64 x.v.n, .string x.v.s, .slice xau x.l.length xcu, .slice xaf x.f.length xcf] : Array Value)[j]? = some v → w'.cell? ⟨b1, off1 + 0 * 6 + j, none⟩ = some v)) w4)
        refine hK _ _ (fun _ => hS9) ?_
        clear hK K hS
        have hS := hS9
        clear hS9
        clear hb4 HCL
        try simp only [Act.put, List.getElem_toArray, List.getElem_cons_succ, List.getElem_cons_zero, List.setIfInBounds_toArray, List.set_cons_zero, List.set_cons_succ]
        refine AnyE.take (i := 8) (v := ?_) rfl (by kernel_rfl) (by kernel_rfl) (by kernel_rfl) (by kernel_rfl) (by kernel_rfl) (fun _ _ _ h => h) (Or.inl ⟨by rfl, ?_⟩) hS ?_
        rotate_left
        focus (intro wq hSq; obtain ⟨hS1, hS2, hS3⟩ := hSq; go_simp; with_reducible rfl)
        try simp only [Act.put, List.getElem_toArray, List.getElem_cons_succ, List.getElem_cons_zero, List.setIfInBounds_toArray, List.set_cons_zero, List.set_cons_succ]
        refine AnyE.take (i := 9) (v := ?_) rfl (by kernel_rfl) (by kernel_rfl) (by kernel_rfl) (by kernel_rfl) (by kernel_rfl) (fun _ _ _ h => h) (Or.inl ⟨by rfl, ?_⟩) hS ?_
        rotate_left
        focus (intro wq hSq; obtain ⟨hS1, hS2, hS3⟩ := hSq; go_simp; with_reducible rfl)
        try simp only [Act.put, List.getElem_toArray, List.getElem_cons_succ, List.getElem_cons_zero, List.setIfInBounds_toArray, List.set_cons_zero, List.set_cons_succ]
        refine AnyE.done (by kernel_rfl) ?_ _
        clear hS
        have hcap := HLB.out
        go_wp2_with fail
        go_roundw
        case rel => exact ⟨0 + 1, A ++ (dtxt T n true x), Hlt.out, by go_num, by rw [ba_app], by rw [HVT.out]; exact HJ.out.symm, HBr.out⟩
        case measure => have := Hlt.out; simp [intOf]; omega
      case neg =>
        have hL0 : (dtxtL T n (d.l.take k)) ≠ [] := fun h => by rw [h] at hkl; simp at hkl; omega
        have hjs := join_snoc (dtxtL T n (d.l.take k)) [44] (dtxt T n true x) hL0
        rw [hjs] at hle
        simp only [List.length_append, List.length_cons, List.length_nil] at hle
        have HLEN := Lib.hid (show (dtxt T n true x).length ≤ 100000000000000 by omega)
        have hs0 : ¬ 9223372036854775807 < A.length + 1 := by omega
        have hs1 : ¬ 9223372036854775807 < A.length + 1 + (dtxt T n true x).length := by omega
        have HJ := Lib.hid (show [91] ++ Lib.join ((dtxtL T n (d.l.take k)) ++ [dtxt T n true x]) [44] = A ++ [44] ++ (dtxt T n true x) by rw [HA.out, hjs]; simp only [List.append_assoc])
        have d0 : decide (0 < k) = true := decide_eq_true (Nat.pos_of_ne_zero hk0)
        clear hjs hk0
        clear hle hRl hAl hcap hL0 hkl hk
        go_upto_region 10 with fail
        clear cBF
        refine AnyE.region (S := fun w' => (∀ j_1, w'.cell? ⟨w.heap.size, j_1, none⟩ = (#[.int .i64 n.id, .string n.name, .int .i64 n.rep, .int .i64 n.kind, .slice au ns cu] : Array Value)[j_1]?) ∧ w'.cell? ⟨w.heap.size + 1, 4, none⟩ = some (.slice (some ⟨b1, off1, none⟩) nl cl) ∧ (∀ (j : Nat) (v : Value), (#[.bool x.no, .int .i64 x.v.k, .int .i64 x.v.n, .string x.v.s, .slice xau x.l.length xcu, .slice xaf x.f.length xcf] : Array Value)[j]? = some v → w'.cell? ⟨b1, off1 + k * 6 + j, none⟩ = some v)) (E := []) (by kernel_rfl) ?_
        have hbx := (Below.refl wr.heap.size wr).drew
        have hbw3 := HBW.out.trans (hbx.mono HBW.out.size)
        have hcl := HI.out wr.drew ((HN.out.under hbw3).mono fun b hb _ => Nat.lt_of_lt_of_le hb hbw3.size) HO.out HR.out HKK.out ((HU.out.under (hbx.mono HBW.out.size)).mono fun b hb _ => Nat.lt_of_lt_of_le hb hbw3.size) ((HT.out.under (hbx.mono HBW.out.size)).mono fun b hb _ => Nat.lt_of_lt_of_le hb hbw3.size) (fun z hz => HDl.out z (dtsL_mem HXM.out hz)) (HZL.out x HXM.out) HS4.out HLEN.out
        replace RBr := Lib.hid (row_keep hbx RBr.out); replace RAr := Lib.hid (row_keep hbx RAr.out); replace HBr := Lib.hid (HBr.out.trans (hbx.mono HBr.out.size))
        have hS := (⟨rowc RAr.out, rowc RBr.out 4, fun j v hj => (hbx.cell (p := ⟨b1, off1 + k * 6 + j, none⟩) (block_lt_of_cell (HCX.out j v hj))).trans (HCX.out j v hj)⟩ : (fun w' => (∀ j_1, w'.cell? ⟨w.heap.size, j_1, none⟩ = (#[.int .i64 n.id, .string n.name, .int .i64 n.rep, .int .i64 n.kind, .slice au ns cu] : Array Value)[j_1]?) ∧ w'.cell? ⟨w.heap.size + 1, 4, none⟩ = some (.slice (some ⟨b1, off1, none⟩) nl cl) ∧ (∀ (j : Nat) (v : Value), (#[.bool x.no, .int .i64 x.v.k, .int .i64 x.v.n, .string x.v.s, .slice xau x.l.length xcu, .slice xaf x.f.length xcf] : Array Value)[j]? = some v → w'.cell? ⟨b1, off1 + k * 6 + j, none⟩ = some v)) wr.drew)
        unfold TextRet strV at hcl
        have HCL := Lib.hid hcl
        replace HCX := Lib.hid hS.2.2
        clear hbx hbw3 hcl
        generalize wr.drew = wd at *
        refine AnyE.take (i := 0) (v := ?_) rfl (by kernel_rfl) (by kernel_rfl) (by kernel_rfl) (by kernel_rfl) (by kernel_rfl) (fun _ _ _ h => h) (Or.inl ⟨by rfl, ?_⟩) hS ?_
        rotate_left
        focus (intro wq hSq; obtain ⟨hS1, hS2, hS3⟩ := hSq; go_simp; with_reducible rfl)
        try simp only [Act.put, List.getElem_toArray, List.getElem_cons_succ, List.getElem_cons_zero, List.setIfInBounds_toArray, List.set_cons_zero, List.set_cons_succ]
        refine AnyE.take (i := 1) (v := ?_) rfl (by kernel_rfl) (by kernel_rfl) (by kernel_rfl) (by kernel_rfl) (by kernel_rfl) (fun _ _ _ h => h) (Or.inl ⟨by rfl, ?_⟩) hS ?_
        rotate_left
        focus (intro wq hSq; obtain ⟨hS1, hS2, hS3⟩ := hSq; go_simp; with_reducible rfl)
        try simp only [Act.put, List.getElem_toArray, List.getElem_cons_succ, List.getElem_cons_zero, List.setIfInBounds_toArray, List.set_cons_zero, List.set_cons_succ]
        refine AnyE.take (i := 2) (v := ?_) rfl (by kernel_rfl) (by kernel_rfl) (by kernel_rfl) (by kernel_rfl) (by kernel_rfl) (fun _ _ _ h => h) (Or.inl ⟨by rfl, ?_⟩) hS ?_
        rotate_left
        focus (intro wq hSq; obtain ⟨hS1, hS2, hS3⟩ := hSq; go_simp; with_reducible rfl)
        try simp only [Act.put, List.getElem_toArray, List.getElem_cons_succ, List.getElem_cons_zero, List.setIfInBounds_toArray, List.set_cons_zero, List.set_cons_succ]
        refine AnyE.take (i := 3) (v := ?_) rfl (by kernel_rfl) (by kernel_rfl) (by kernel_rfl) (by kernel_rfl) (by kernel_rfl) (fun _ _ _ h => h) (Or.inl ⟨by rfl, ?_⟩) hS ?_
        rotate_left
        focus (intro wq hSq; obtain ⟨hS1, hS2, hS3⟩ := hSq; go_simp; with_reducible rfl)
        try simp only [Act.put, List.getElem_toArray, List.getElem_cons_succ, List.getElem_cons_zero, List.setIfInBounds_toArray, List.set_cons_zero, List.set_cons_succ]
        refine AnyE.take (i := 4) (v := ?_) rfl (by kernel_rfl) (by kernel_rfl) (by kernel_rfl) (by kernel_rfl) (by kernel_rfl) (fun _ _ _ h => h) (Or.inl ⟨by rfl, ?_⟩) hS ?_
        rotate_left
        focus (intro wq hSq; obtain ⟨hS1, hS2, hS3⟩ := hSq; go_simp; with_reducible rfl)
        try simp only [Act.put, List.getElem_toArray, List.getElem_cons_succ, List.getElem_cons_zero, List.setIfInBounds_toArray, List.set_cons_zero, List.set_cons_succ]
        refine AnyE.take (i := 5) (v := ?_) rfl (by kernel_rfl) (by kernel_rfl) (by kernel_rfl) (by kernel_rfl) (by kernel_rfl) (fun _ _ _ h => h) (Or.inl ⟨by rfl, ?_⟩) hS ?_
        rotate_left
        focus (intro wq hSq; obtain ⟨hS1, hS2, hS3⟩ := hSq; go_simp; with_reducible rfl)
        try simp only [Act.put, List.getElem_toArray, List.getElem_cons_succ, List.getElem_cons_zero, List.setIfInBounds_toArray, List.set_cons_zero, List.set_cons_succ]
        refine AnyE.take (i := 6) (v := .agg #[.bool x.no, .int .i64 x.v.k, .int .i64 x.v.n, .string x.v.s, .slice xau x.l.length xcu, .slice xaf x.f.length xcf]) rfl (by kernel_rfl) (by kernel_rfl) (by kernel_rfl) (by kernel_rfl) (by kernel_rfl) (fun _ _ _ h => h) (yields_load 29 _ rfl rfl b1 (off1 + k * 6) rfl #[.bool x.no, .int .i64 x.v.k, .int .i64 x.v.n, .string x.v.s, .slice xau x.l.length xcu, .slice xaf x.f.length xcf] _ (fun w h => h.2.2) Tryz.underlying29 rfl (by kernel_rfl)) hS ?_
        try simp only [Act.put, List.getElem_toArray, List.getElem_cons_succ, List.getElem_cons_zero, List.setIfInBounds_toArray, List.set_cons_zero, List.set_cons_succ]
        refine AnyE.one (i := 7) (by kernel_rfl) rfl rfl ?_
        intro K hK
        simp only [List.getElem_toArray, List.getElem_cons_succ, List.getElem_cons_zero]
        go_simp
        refine HCL.out.mono ?_; rintro e w4 ⟨rfl, hb4⟩
        replace RAr := Lib.hid (row_keep hb4 RAr.out); replace RBr := Lib.hid (row_keep hb4 RBr.out); replace HBr := Lib.hid (HBr.out.trans (hb4.mono HBr.out.size))
        have hS9 := (⟨rowc RAr.out, rowc RBr.out 4, fun j v hj => (hb4.cell (p := ⟨b1, off1 + k * 6 + j, none⟩) (block_lt_of_cell (HCX.out j v hj))).trans (HCX.out j v hj)⟩ : (fun w' => (∀ j_1, w'.cell? ⟨w.heap.size, j_1, none⟩ = (#[.int .i64 n.id, .string n.name, .int .i64 n.rep, .int .i64 n.kind, .slice au ns cu] : Array Value)[j_1]?) ∧ w'.cell? ⟨w.heap.size + 1, 4, none⟩ = some (.slice (some ⟨b1, off1, none⟩) nl cl) ∧ (∀ (j : Nat) (v : Value), (#[.bool x.no, .int .i64 x.v.k, .int .i64 x.v.n, .string x.v.s, .slice xau x.l.length xcu, .slice xaf x.f.length xcf] : Array Value)[j]? = some v → w'.cell? ⟨b1, off1 + k * 6 + j, none⟩ = some v)) w4)
        refine hK _ _ (fun _ => hS9) ?_
        clear hK K hS
        have hS := hS9
        clear hS9
        clear hb4 HCL
        try simp only [Act.put, List.getElem_toArray, List.getElem_cons_succ, List.getElem_cons_zero, List.setIfInBounds_toArray, List.set_cons_zero, List.set_cons_succ]
        refine AnyE.take (i := 8) (v := ?_) rfl (by kernel_rfl) (by kernel_rfl) (by kernel_rfl) (by kernel_rfl) (by kernel_rfl) (fun _ _ _ h => h) (Or.inl ⟨by rfl, ?_⟩) hS ?_
        rotate_left
        focus (intro wq hSq; obtain ⟨hS1, hS2, hS3⟩ := hSq; go_simp; with_reducible rfl)
        try simp only [Act.put, List.getElem_toArray, List.getElem_cons_succ, List.getElem_cons_zero, List.setIfInBounds_toArray, List.set_cons_zero, List.set_cons_succ]
        refine AnyE.take (i := 9) (v := ?_) rfl (by kernel_rfl) (by kernel_rfl) (by kernel_rfl) (by kernel_rfl) (by kernel_rfl) (fun _ _ _ h => h) (Or.inl ⟨by rfl, ?_⟩) hS ?_
        rotate_left
        focus (intro wq hSq; obtain ⟨hS1, hS2, hS3⟩ := hSq; go_simp; with_reducible rfl)
        try simp only [Act.put, List.getElem_toArray, List.getElem_cons_succ, List.getElem_cons_zero, List.setIfInBounds_toArray, List.set_cons_zero, List.set_cons_succ]
        refine AnyE.done (by kernel_rfl) ?_ _
        clear hS
        have hcap := HLB.out
        go_wp2_with fail
        go_roundw
        case rel => exact ⟨k + 1, A ++ [44] ++ (dtxt T n true x), Hlt.out, by go_num, by rw [ba_app A [44], ba_app], by rw [HVT.out]; exact HJ.out.symm, HBr.out⟩
        case measure => have := Hlt.out; simp [intOf]; omega
  rw [if_neg hl3] at eq1
  have HEQ := Lib.hid eq1
  have hd3 : ((n.rep : Int) == 3) = false ∨ (((n.rep : Int) == 3) = true ∧ one = true) := by
    by_cases h : n.rep = 3
    · exact .inr ⟨by rw [h]; rfl, by simpa [h] using hl3⟩
    · exact .inl (by simpa using h)
  have hlon : lonely n one d := by
    by_cases h1 : one = true
    · exact .inl h1
    · have h3 : n.rep ≠ 3 := fun h => hl3 (by simp [h]; cases one <;> simp_all)
      have := HR0.out.1; have := HR0.out.2.1
      rcases (show n.rep = 1 ∨ n.rep = 2 by omega) with h | h
      · exact .inr (.inl h)
      · exact .inr (.inr ⟨h, HNO.out⟩)
  have HLON := Lib.hid hlon
  clear eq1 hl3 hlon
  rcases hd3 with d3 | ⟨d3, rfl⟩
  all_goals
    by_cases hk0 : n.kind = 0
    case neg =>
      have dk0 : ((n.kind : Int) != 0) = true := by simpa using hk0
      have eq1 := HEQ.out
      rw [if_pos hk0] at eq1
      have hok : okB n.kind d.v = true := by
        have h := HZ.out
        rw [datE_leaf HLON.out hk0] at h
        split at h
        · split at h
          · assumption
          · omega
        · omega
      subst eq1
      have HV2 := Lib.hid (HVL.out hk0 hok)
      unfold TextRet strV at HV2
      clear hk0 hok HEQ HVL
      go_wp2_with fail
      refine (HV2.out w1).mono ?_; rintro e w3 ⟨rfl, hb3⟩
      have HB3 := Lib.hid (HW.out.trans (hb3.mono HW.out.size))
      clear hb3 cA cB
      go_wp2_with fail
      go_ret
      exact ⟨rfl, HB3.out⟩
    have dk0 : ((n.kind : Int) != 0) = false := by simpa using hk0
    have eq1 := HEQ.out
    rw [if_neg (by simpa using hk0)] at eq1
    have hzg : nf = ns ∧ datEF n.sub d.f = 0 := by
      have h := HZ.out
      rw [datE_group HLON.out hk0, HNF.out, HNS.out] at h
      split at h
      · split at h
        · exact ⟨by assumption, h⟩
        · omega
      · omega
    obtain ⟨rfl, hzf⟩ := hzg
    have HZF := Lib.hid (datEF_zero _ _ hzf)
    have HEQ2 := Lib.hid eq1
    clear HEQ eq1 hk0 hzf
    go_wp2_with fail
    clear cA cB d3
    go_loopw [9, 10] (fun sA i wr => ∃ (k : Nat) (A : List UInt8), k ≤ nf ∧ i = .int .i64 (k : Nat) ∧ sA = .string ⟨A.toArray⟩ ∧ Hid (A = [123] ++ Lib.join (dtxtF T (n.sub.take k) (d.f.take k)) [44]) ∧ Hid (Below w1.heap.size w1 wr)) (fun _ i _ => nf - (intOf i).toNat)
    case atStart => exact ⟨0, [123], Nat.zero_le _, rfl, rfl, by rw [List.take_zero, List.take_zero]; rfl, Below.refl _ _⟩
    case round =>
      obtain ⟨k, A, hk, rfl, rfl, HA, HBr⟩ := hrel
      have RAr := Lib.hid (row_keep HBr.out RA.out); have RBr := Lib.hid (row_keep HBr.out RB.out)
      have cBF : wr.cell? ⟨w.heap.size + 1, 5, none⟩ = some (.slice af nf cf) := rowc RBr.out 5
      by_cases hlt : k < nf
      case neg =>
        obtain rfl : k = nf := Nat.le_antisymm hk (Nat.le_of_not_lt hlt)
        have hA := HA.out
        rw [List.take_of_length_le (Nat.le_of_eq HNF.out), List.take_of_length_le (Nat.le_of_eq HNS.out)] at hA
        have hR2 : A ++ [125] = R := by rw [hA, ← HEQ2.out]
        have hs1 : ¬ 9223372036854775807 < A.length + 1 := by have := HCAP.out; rw [← hR2, List.length_append] at this; simp at this; omega
        have HR2 := Lib.hid hR2
        have dk : decide (k < k) = false := by simp
        clear hlt hk hA hR2
        go_wp2_with fail
        go_ret
        refine ⟨?_, HW.out.trans (HBr.out.mono HW.out.size)⟩
        rw [← HR2.out]
        exact congrArg (fun s => Ending.returned (Value.string s)) (ba_app A [125])
      obtain ⟨x, hx⟩ : ∃ x, d.f[k]? = some x := ⟨_, List.getElem?_eq_getElem (by rw [HNF.out]; exact hlt)⟩
      obtain ⟨y, hy⟩ : ∃ y, n.sub[k]? = some y := ⟨_, List.getElem?_eq_getElem (by rw [HNS.out]; exact hlt)⟩
      have hxm : x ∈ d.f := List.mem_of_getElem? hx
      have hym : y ∈ n.sub := List.mem_of_getElem? hy
      have hbw := HW.out.trans (HBr.out.mono HW.out.size)
      obtain ⟨b1, off1, h17, hPb1, hb1, hat1⟩ := (HLf.out.under hbw).at (by rw [HNF.out]; omega)
      subst h17
      obtain ⟨xu, xt, hcx, hu, ht⟩ := hat1 k x hx
      obtain ⟨b0, off0, h18, hPb0, hb0, hat0⟩ := (HN.out.under hbw).at (by rw [HNS.out]; omega)
      subst h18
      obtain ⟨yu, hcy, hny⟩ := hat0 k y hy
      obtain ⟨xau, xcu, rfl⟩ := hu.form
      obtain ⟨xaf, xcf, rfl⟩ := ht.form
      obtain ⟨yau, ycu, rfl⟩ := hny.form
      have hI := HIF.out x hxm y (.slice yau y.sub.length ycu) (.slice xau x.l.length xcu) (.slice xaf x.f.length xcf) false
      have hvt := dtxtF_take T n.sub d.f k y x hy hx
      have hle := join_take_le (dtxtF T n.sub d.f) [44] (k + 1)
      rw [dtxtF_takeF, hvt] at hle
      have hRl : R.length = 1 + (Lib.join (dtxtF T n.sub d.f) [44]).length + 1 := by rw [← HEQ2.out]; simp; omega
      have hAl : A.length = 1 + (Lib.join (dtxtF T (n.sub.take k) (d.f.take k)) [44]).length := by rw [HA.out]; simp; omega
      have hcap := HCAP.out
      have hnm : y.name.data.toList.length = y.name.size := rfl
      unfold DtAt dtA at hcx
      unfold NdAt ndA at hcy
      have HCX := Lib.hid hcx; have HCY := Lib.hid hcy; have HI := Lib.hid hI; have HU := Lib.hid hu; have HT := Lib.hid ht; have HNY := Lib.hid hny; have HX := Lib.hid hx; have HY := Lib.hid hy; have HXM := Lib.hid hxm; have HYM := Lib.hid hym; have HVT := Lib.hid hvt
      have hkl : (dtxtF T (n.sub.take k) (d.f.take k)).length = k := by rw [dtxtF_len T _ _ (by rw [List.length_take, List.length_take, HNF.out, HNS.out]), List.length_take, HNF.out]; omega
      have Hlt := Lib.hid hlt; have HBW := Lib.hid hbw
      have hin : (k : Int) < (nf : Int) := Int.ofNat_lt.2 hlt
      have dk : decide (k < nf) = true := decide_eq_true hlt
      clear hxm hym hbw hat0 hat1 hcx hcy hu ht hny hI hlt hPb0 hPb1 hb0 hb1 hx hy
      by_cases hk0 : k = 0
      case pos =>
        subst hk0
        have hL0 : (dtxtF T (n.sub.take 0) (d.f.take 0)) = [] := List.eq_nil_of_length_eq_zero hkl
        rw [hL0, List.nil_append, Lib.join_one] at hle
        rw [hL0] at hAl
        have hj0 : (Lib.join ([] : List (List UInt8)) [44]).length = 0 := rfl
        rw [hj0] at hAl
        simp only [List.length_append, List.length_cons, List.length_nil, hnm] at hle
        have HLEN := Lib.hid (show (dtxt T y false x).length ≤ 100000000000000 by omega)
        have hs1 : ¬ 9223372036854775807 < A.length + y.name.size := by omega
        have hs2 : ¬ 9223372036854775807 < A.length + y.name.size + 1 := by omega
        have hs3 : ¬ 9223372036854775807 < A.length + y.name.size + 1 + (dtxt T y false x).length := by omega
        have HJ := Lib.hid (show [123] ++ Lib.join ((dtxtF T (n.sub.take 0) (d.f.take 0)) ++ [(y.name.data.toList ++ [58] ++ dtxt T y false x)]) [44] = A ++ ((y.name.data.toList ++ [58] ++ dtxt T y false x)) by rw [HA.out, hL0, List.nil_append, Lib.join_one]; simp [Lib.join_nil])
        have d0 : decide ((0 : Nat) < 0) = false := by simp
        have hpos : 0 < nf := Hlt.out
        clear hle hRl hAl hcap hL0 hkl hk hnm hj0
        go_upto_region 20 with fail
        clear cBF
        refine AnyE.region (S := fun w' => w'.cell? ⟨w.heap.size, 4, none⟩ = some (.slice (some ⟨b0, off0, none⟩) nf cu) ∧ w'.cell? ⟨w.heap.size + 1, 5, none⟩ = some (.slice (some ⟨b1, off1, none⟩) nf cf) ∧ (∀ (j : Nat) (v : Value), (#[.bool x.no, .int .i64 x.v.k, .int .i64 x.v.n, .string x.v.s, .slice xau x.l.length xcu, .slice xaf x.f.length xcf] : Array Value)[j]? = some v → w'.cell? ⟨b1, off1 + 0 * 6 + j, none⟩ = some v) ∧ (∀ (j : Nat) (v : Value), (#[.int .i64 y.id, .string y.name, .int .i64 y.rep, .int .i64 y.kind, .slice yau y.sub.length ycu] : Array Value)[j]? = some v → w'.cell? ⟨b0, off0 + 0 * 5 + j, none⟩ = some v) ∧ w'.cell? ⟨b0, off0 + 0 * 5 + 1, none⟩ = some (.string y.name)) (E := []) (by kernel_rfl) ?_
        have hbx := (Below.refl wr.heap.size wr).drew
        have hbw3 := HBW.out.trans (hbx.mono HBW.out.size)
        have hcl := HI.out wr.drew ((HNY.out.under (hbx.mono HBW.out.size)).mono fun b hb _ => Nat.lt_of_lt_of_le hb hbw3.size) (fun z hz => HO.out z (by rw [nodes_eq]; exact List.mem_cons_of_mem _ (nodesL_mem HYM.out hz))) (fun z hz => HR.out z (by rw [nodes_eq]; exact List.mem_cons_of_mem _ (nodesL_mem HYM.out hz))) (fun z hz => HKK.out z (by rw [nodes_eq]; exact List.mem_cons_of_mem _ (nodesL_mem HYM.out hz))) ((HU.out.under (hbx.mono HBW.out.size)).mono fun b hb _ => Nat.lt_of_lt_of_le hb hbw3.size) ((HT.out.under (hbx.mono HBW.out.size)).mono fun b hb _ => Nat.lt_of_lt_of_le hb hbw3.size) (fun z hz => HDf.out z (dtsL_mem HXM.out hz)) (HZF.out 0 y x HY.out HX.out) (fun z hz => HS4.out z (by rw [nodes_eq]; exact List.mem_cons_of_mem _ (nodesL_mem HYM.out hz))) HLEN.out
        replace RBr := Lib.hid (row_keep hbx RBr.out); replace RAr := Lib.hid (row_keep hbx RAr.out); replace HBr := Lib.hid (HBr.out.trans (hbx.mono HBr.out.size))
        have hS := (⟨rowc RAr.out 4, rowc RBr.out 5, fun j v hj => (hbx.cell (p := ⟨b1, off1 + 0 * 6 + j, none⟩) (block_lt_of_cell (HCX.out j v hj))).trans (HCX.out j v hj), fun j v hj => (hbx.cell (p := ⟨b0, off0 + 0 * 5 + j, none⟩) (block_lt_of_cell (HCY.out j v hj))).trans (HCY.out j v hj), (hbx.cell (p := ⟨b0, off0 + 0 * 5 + 1, none⟩) (block_lt_of_cell (HCY.out 1 _ rfl))).trans (HCY.out 1 _ rfl)⟩ : (fun w' => w'.cell? ⟨w.heap.size, 4, none⟩ = some (.slice (some ⟨b0, off0, none⟩) nf cu) ∧ w'.cell? ⟨w.heap.size + 1, 5, none⟩ = some (.slice (some ⟨b1, off1, none⟩) nf cf) ∧ (∀ (j : Nat) (v : Value), (#[.bool x.no, .int .i64 x.v.k, .int .i64 x.v.n, .string x.v.s, .slice xau x.l.length xcu, .slice xaf x.f.length xcf] : Array Value)[j]? = some v → w'.cell? ⟨b1, off1 + 0 * 6 + j, none⟩ = some v) ∧ (∀ (j : Nat) (v : Value), (#[.int .i64 y.id, .string y.name, .int .i64 y.rep, .int .i64 y.kind, .slice yau y.sub.length ycu] : Array Value)[j]? = some v → w'.cell? ⟨b0, off0 + 0 * 5 + j, none⟩ = some v) ∧ w'.cell? ⟨b0, off0 + 0 * 5 + 1, none⟩ = some (.string y.name)) wr.drew)
        unfold TextRet strV at hcl
        have HCL := Lib.hid hcl
        replace HCX := Lib.hid hS.2.2.1
        replace HCY := Lib.hid hS.2.2.2.1
        clear hbx hbw3 hcl
        generalize wr.drew = wd at *
        refine AnyE.take (i := 0) (v := ?_) rfl (by kernel_rfl) (by kernel_rfl) (by kernel_rfl) (by kernel_rfl) (by kernel_rfl) (fun _ _ _ h => h) (Or.inl ⟨by rfl, ?_⟩) hS ?_
        rotate_left
        focus (intro wq hSq; obtain ⟨hS1, hS2, hS3, hS4, hS5⟩ := hSq; go_simp; with_reducible rfl)
        try simp only [Act.put, List.getElem_toArray, List.getElem_cons_succ, List.getElem_cons_zero, List.setIfInBounds_toArray, List.set_cons_zero, List.set_cons_succ]
        refine AnyE.take (i := 1) (v := ?_) rfl (by kernel_rfl) (by kernel_rfl) (by kernel_rfl) (by kernel_rfl) (by kernel_rfl) (fun _ _ _ h => h) (Or.inl ⟨by rfl, ?_⟩) hS ?_
        rotate_left
        focus (intro wq hSq; obtain ⟨hS1, hS2, hS3, hS4, hS5⟩ := hSq; go_simp; with_reducible rfl)
        try simp only [Act.put, List.getElem_toArray, List.getElem_cons_succ, List.getElem_cons_zero, List.setIfInBounds_toArray, List.set_cons_zero, List.set_cons_succ]
        refine AnyE.take (i := 2) (v := ?_) rfl (by kernel_rfl) (by kernel_rfl) (by kernel_rfl) (by kernel_rfl) (by kernel_rfl) (fun _ _ _ h => h) (Or.inl ⟨by rfl, ?_⟩) hS ?_
        rotate_left
        focus (intro wq hSq; obtain ⟨hS1, hS2, hS3, hS4, hS5⟩ := hSq; go_simp; with_reducible rfl)
        try simp only [Act.put, List.getElem_toArray, List.getElem_cons_succ, List.getElem_cons_zero, List.setIfInBounds_toArray, List.set_cons_zero, List.set_cons_succ]
        refine AnyE.take (i := 3) (v := ?_) rfl (by kernel_rfl) (by kernel_rfl) (by kernel_rfl) (by kernel_rfl) (by kernel_rfl) (fun _ _ _ h => h) (Or.inl ⟨by rfl, ?_⟩) hS ?_
        rotate_left
        focus (intro wq hSq; obtain ⟨hS1, hS2, hS3, hS4, hS5⟩ := hSq; go_simp; with_reducible rfl)
        try simp only [Act.put, List.getElem_toArray, List.getElem_cons_succ, List.getElem_cons_zero, List.setIfInBounds_toArray, List.set_cons_zero, List.set_cons_succ]
        refine AnyE.take (i := 4) (v := ?_) rfl (by kernel_rfl) (by kernel_rfl) (by kernel_rfl) (by kernel_rfl) (by kernel_rfl) (fun _ _ _ h => h) (Or.inl ⟨by rfl, ?_⟩) hS ?_
        rotate_left
        focus (intro wq hSq; obtain ⟨hS1, hS2, hS3, hS4, hS5⟩ := hSq; go_simp; with_reducible rfl)
        try simp only [Act.put, List.getElem_toArray, List.getElem_cons_succ, List.getElem_cons_zero, List.setIfInBounds_toArray, List.set_cons_zero, List.set_cons_succ]
        refine AnyE.take (i := 5) (v := ?_) rfl (by kernel_rfl) (by kernel_rfl) (by kernel_rfl) (by kernel_rfl) (by kernel_rfl) (fun _ _ _ h => h) (Or.inl ⟨by rfl, ?_⟩) hS ?_
        rotate_left
        focus (intro wq hSq; obtain ⟨hS1, hS2, hS3, hS4, hS5⟩ := hSq; go_simp; with_reducible rfl)
        try simp only [Act.put, List.getElem_toArray, List.getElem_cons_succ, List.getElem_cons_zero, List.setIfInBounds_toArray, List.set_cons_zero, List.set_cons_succ]
        refine AnyE.take (i := 6) (v := ?_) rfl (by kernel_rfl) (by kernel_rfl) (by kernel_rfl) (by kernel_rfl) (by kernel_rfl) (fun _ _ _ h => h) (Or.inl ⟨by rfl, ?_⟩) hS ?_
        rotate_left
        focus (intro wq hSq; obtain ⟨hS1, hS2, hS3, hS4, hS5⟩ := hSq; go_simp; with_reducible rfl)
        try simp only [Act.put, List.getElem_toArray, List.getElem_cons_succ, List.getElem_cons_zero, List.setIfInBounds_toArray, List.set_cons_zero, List.set_cons_succ]
        refine AnyE.take (i := 7) (v := ?_) rfl (by kernel_rfl) (by kernel_rfl) (by kernel_rfl) (by kernel_rfl) (by kernel_rfl) (fun _ _ _ h => h) (Or.inl ⟨by rfl, ?_⟩) hS ?_
        rotate_left
        focus (intro wq hSq; obtain ⟨hS1, hS2, hS3, hS4, hS5⟩ := hSq; go_simp; with_reducible rfl)
        try simp only [Act.put, List.getElem_toArray, List.getElem_cons_succ, List.getElem_cons_zero, List.setIfInBounds_toArray, List.set_cons_zero, List.set_cons_succ]
        refine AnyE.take (i := 8) (v := ?_) rfl (by kernel_rfl) (by kernel_rfl) (by kernel_rfl) (by kernel_rfl) (by kernel_rfl) (fun _ _ _ h => h) (Or.inl ⟨by rfl, ?_⟩) hS ?_
        rotate_left
        focus (intro wq hSq; obtain ⟨hS1, hS2, hS3, hS4, hS5⟩ := hSq; go_simp; with_reducible rfl)
        try simp only [Act.put, List.getElem_toArray, List.getElem_cons_succ, List.getElem_cons_zero, List.setIfInBounds_toArray, List.set_cons_zero, List.set_cons_succ]
        refine AnyE.take (i := 9) (v := ?_) rfl (by kernel_rfl) (by kernel_rfl) (by kernel_rfl) (by kernel_rfl) (by kernel_rfl) (fun _ _ _ h => h) (Or.inl ⟨by rfl, ?_⟩) hS ?_
        rotate_left
        focus (intro wq hSq; obtain ⟨hS1, hS2, hS3, hS4, hS5⟩ := hSq; go_simp; with_reducible rfl)
        try simp only [Act.put, List.getElem_toArray, List.getElem_cons_succ, List.getElem_cons_zero, List.setIfInBounds_toArray, List.set_cons_zero, List.set_cons_succ]
        refine AnyE.take (i := 10) (v := ?_) rfl (by kernel_rfl) (by kernel_rfl) (by kernel_rfl) (by kernel_rfl) (by kernel_rfl) (fun _ _ _ h => h) (Or.inl ⟨by rfl, ?_⟩) hS ?_
        rotate_left
        focus (intro wq hSq; obtain ⟨hS1, hS2, hS3, hS4, hS5⟩ := hSq; go_simp; with_reducible rfl)
        try simp only [Act.put, List.getElem_toArray, List.getElem_cons_succ, List.getElem_cons_zero, List.setIfInBounds_toArray, List.set_cons_zero, List.set_cons_succ]
        refine AnyE.take (i := 11) (v := ?_) rfl (by kernel_rfl) (by kernel_rfl) (by kernel_rfl) (by kernel_rfl) (by kernel_rfl) (fun _ _ _ h => h) (Or.inl ⟨by rfl, ?_⟩) hS ?_
        rotate_left
        focus (intro wq hSq; obtain ⟨hS1, hS2, hS3, hS4, hS5⟩ := hSq; go_simp; with_reducible rfl)
        try simp only [Act.put, List.getElem_toArray, List.getElem_cons_succ, List.getElem_cons_zero, List.setIfInBounds_toArray, List.set_cons_zero, List.set_cons_succ]
        refine AnyE.take (i := 12) (v := ?_) rfl (by kernel_rfl) (by kernel_rfl) (by kernel_rfl) (by kernel_rfl) (by kernel_rfl) (fun _ _ _ h => h) (Or.inl ⟨by rfl, ?_⟩) hS ?_
        rotate_left
        focus (intro wq hSq; obtain ⟨hS1, hS2, hS3, hS4, hS5⟩ := hSq; go_simp; with_reducible rfl)
        try simp only [Act.put, List.getElem_toArray, List.getElem_cons_succ, List.getElem_cons_zero, List.setIfInBounds_toArray, List.set_cons_zero, List.set_cons_succ]
        refine AnyE.take (i := 13) (v := .agg #[.int .i64 y.id, .string y.name, .int .i64 y.rep, .int .i64 y.kind, .slice yau y.sub.length ycu]) rfl (by kernel_rfl) (by kernel_rfl) (by kernel_rfl) (by kernel_rfl) (by kernel_rfl) (fun _ _ _ h => h) (yields_load 24 _ rfl rfl b0 (off0 + 0 * 5) rfl #[.int .i64 y.id, .string y.name, .int .i64 y.rep, .int .i64 y.kind, .slice yau y.sub.length ycu] _ (fun w h => h.2.2.2.1) Tryz.underlying24 rfl (by kernel_rfl)) hS ?_
        try simp only [Act.put, List.getElem_toArray, List.getElem_cons_succ, List.getElem_cons_zero, List.setIfInBounds_toArray, List.set_cons_zero, List.set_cons_succ]
        refine AnyE.take (i := 14) (v := ?_) rfl (by kernel_rfl) (by kernel_rfl) (by kernel_rfl) (by kernel_rfl) (by kernel_rfl) (fun _ _ _ h => h) (Or.inl ⟨by rfl, ?_⟩) hS ?_
        rotate_left
        focus (intro wq hSq; obtain ⟨hS1, hS2, hS3, hS4, hS5⟩ := hSq; go_simp; with_reducible rfl)
        try simp only [Act.put, List.getElem_toArray, List.getElem_cons_succ, List.getElem_cons_zero, List.setIfInBounds_toArray, List.set_cons_zero, List.set_cons_succ]
        refine AnyE.take (i := 15) (v := ?_) rfl (by kernel_rfl) (by kernel_rfl) (by kernel_rfl) (by kernel_rfl) (by kernel_rfl) (fun _ _ _ h => h) (Or.inl ⟨by rfl, ?_⟩) hS ?_
        rotate_left
        focus (intro wq hSq; obtain ⟨hS1, hS2, hS3, hS4, hS5⟩ := hSq; go_simp; with_reducible rfl)
        try simp only [Act.put, List.getElem_toArray, List.getElem_cons_succ, List.getElem_cons_zero, List.setIfInBounds_toArray, List.set_cons_zero, List.set_cons_succ]
        refine AnyE.take (i := 16) (v := ?_) rfl (by kernel_rfl) (by kernel_rfl) (by kernel_rfl) (by kernel_rfl) (by kernel_rfl) (fun _ _ _ h => h) (Or.inl ⟨by rfl, ?_⟩) hS ?_
        rotate_left
        focus (intro wq hSq; obtain ⟨hS1, hS2, hS3, hS4, hS5⟩ := hSq; go_simp; with_reducible rfl)
        try simp only [Act.put, List.getElem_toArray, List.getElem_cons_succ, List.getElem_cons_zero, List.setIfInBounds_toArray, List.set_cons_zero, List.set_cons_succ]
        refine AnyE.take (i := 17) (v := ?_) rfl (by kernel_rfl) (by kernel_rfl) (by kernel_rfl) (by kernel_rfl) (by kernel_rfl) (fun _ _ _ h => h) (Or.inl ⟨by rfl, ?_⟩) hS ?_
        rotate_left
        focus (intro wq hSq; obtain ⟨hS1, hS2, hS3, hS4, hS5⟩ := hSq; go_simp; with_reducible rfl)
        try simp only [Act.put, List.getElem_toArray, List.getElem_cons_succ, List.getElem_cons_zero, List.setIfInBounds_toArray, List.set_cons_zero, List.set_cons_succ]
        refine AnyE.take (i := 18) (v := .agg #[.bool x.no, .int .i64 x.v.k, .int .i64 x.v.n, .string x.v.s, .slice xau x.l.length xcu, .slice xaf x.f.length xcf]) rfl (by kernel_rfl) (by kernel_rfl) (by kernel_rfl) (by kernel_rfl) (by kernel_rfl) (fun _ _ _ h => h) (yields_load 29 _ rfl rfl b1 (off1 + 0 * 6) rfl #[.bool x.no, .int .i64 x.v.k, .int .i64 x.v.n, .string x.v.s, .slice xau x.l.length xcu, .slice xaf x.f.length xcf] _ (fun w h => h.2.2.1) Tryz.underlying29 rfl (by kernel_rfl)) hS ?_
        try simp only [Act.put, List.getElem_toArray, List.getElem_cons_succ, List.getElem_cons_zero, List.setIfInBounds_toArray, List.set_cons_zero, List.set_cons_succ]
        refine AnyE.one (i := 19) (by kernel_rfl) rfl rfl ?_
        intro K hK
        simp only [List.getElem_toArray, List.getElem_cons_succ, List.getElem_cons_zero]
        go_simp
        refine HCL.out.mono ?_; rintro e w4 ⟨rfl, hb4⟩
        replace RAr := Lib.hid (row_keep hb4 RAr.out); replace RBr := Lib.hid (row_keep hb4 RBr.out); replace HBr := Lib.hid (HBr.out.trans (hb4.mono HBr.out.size))
        have hS9 := (⟨rowc RAr.out 4, rowc RBr.out 5, fun j v hj => (hb4.cell (p := ⟨b1, off1 + 0 * 6 + j, none⟩) (block_lt_of_cell (HCX.out j v hj))).trans (HCX.out j v hj), fun j v hj => (hb4.cell (p := ⟨b0, off0 + 0 * 5 + j, none⟩) (block_lt_of_cell (HCY.out j v hj))).trans (HCY.out j v hj), (hb4.cell (p := ⟨b0, off0 + 0 * 5 + 1, none⟩) (block_lt_of_cell (HCY.out 1 _ rfl))).trans (HCY.out 1 _ rfl)⟩ : (fun w' => w'.cell? ⟨w.heap.size, 4, none⟩ = some (.slice (some ⟨b0, off0, none⟩) nf cu) ∧ w'.cell? ⟨w.heap.size + 1, 5, none⟩ = some (.slice (some ⟨b1, off1, none⟩) nf cf) ∧ (∀ (j : Nat) (v : Value), (#[.bool x.no, .int .i64 x.v.k, .int .i64 x.v.n, .string x.v.s, .slice xau x.l.length xcu, .slice xaf x.f.length xcf] : Array Value)[j]? = some v → w'.cell? ⟨b1, off1 + 0 * 6 + j, none⟩ = some v) ∧ (∀ (j : Nat) (v : Value), (#[.int .i64 y.id, .string y.name, .int .i64 y.rep, .int .i64 y.kind, .slice yau y.sub.length ycu] : Array Value)[j]? = some v → w'.cell? ⟨b0, off0 + 0 * 5 + j, none⟩ = some v) ∧ w'.cell? ⟨b0, off0 + 0 * 5 + 1, none⟩ = some (.string y.name)) w4)
        refine hK _ _ (fun _ => hS9) ?_
        clear hK K hS
        have hS := hS9
        clear hS9
        clear hb4 HCL
        try simp only [Act.put, List.getElem_toArray, List.getElem_cons_succ, List.getElem_cons_zero, List.setIfInBounds_toArray, List.set_cons_zero, List.set_cons_succ]
        refine AnyE.take (i := 20) (v := ?_) rfl (by kernel_rfl) (by kernel_rfl) (by kernel_rfl) (by kernel_rfl) (by kernel_rfl) (fun _ _ _ h => h) (Or.inl ⟨by rfl, ?_⟩) hS ?_
        rotate_left
        focus (intro wq hSq; obtain ⟨hS1, hS2, hS3, hS4, hS5⟩ := hSq; go_simp; with_reducible rfl)
        try simp only [Act.put, List.getElem_toArray, List.getElem_cons_succ, List.getElem_cons_zero, List.setIfInBounds_toArray, List.set_cons_zero, List.set_cons_succ]
        refine AnyE.take (i := 21) (v := ?_) rfl (by kernel_rfl) (by kernel_rfl) (by kernel_rfl) (by kernel_rfl) (by kernel_rfl) (fun _ _ _ h => h) (Or.inl ⟨by rfl, ?_⟩) hS ?_
        rotate_left
        focus (intro wq hSq; obtain ⟨hS1, hS2, hS3, hS4, hS5⟩ := hSq; go_simp; with_reducible rfl)
        try simp only [Act.put, List.getElem_toArray, List.getElem_cons_succ, List.getElem_cons_zero, List.setIfInBounds_toArray, List.set_cons_zero, List.set_cons_succ]
        refine AnyE.done (by kernel_rfl) ?_ _
        clear hS
        have hcap := HFB.out
        go_wp2_with fail
        go_roundw
        case rel => exact ⟨0 + 1, A ++ ((y.name.data.toList ++ [58] ++ dtxt T y false x)), Hlt.out, by go_num, by exact congrArg Value.string (ba4 A y.name (dtxt T y false x)), by rw [HVT.out]; exact HJ.out.symm, HBr.out⟩
        case measure => have := Hlt.out; simp [intOf]; omega
      case neg =>
        have hL0 : (dtxtF T (n.sub.take k) (d.f.take k)) ≠ [] := fun h => by rw [h] at hkl; simp at hkl; omega
        have hjs := join_snoc (dtxtF T (n.sub.take k) (d.f.take k)) [44] ((y.name.data.toList ++ [58] ++ dtxt T y false x)) hL0
        rw [hjs] at hle
        simp only [List.length_append, List.length_cons, List.length_nil, hnm] at hle
        have HLEN := Lib.hid (show (dtxt T y false x).length ≤ 100000000000000 by omega)
        have hs0 : ¬ 9223372036854775807 < A.length + 1 := by omega
        have hs1 : ¬ 9223372036854775807 < A.length + 1 + y.name.size := by omega
        have hs2 : ¬ 9223372036854775807 < A.length + 1 + y.name.size + 1 := by omega
        have hs3 : ¬ 9223372036854775807 < A.length + 1 + y.name.size + 1 + (dtxt T y false x).length := by omega
        have HJ := Lib.hid (show [123] ++ Lib.join ((dtxtF T (n.sub.take k) (d.f.take k)) ++ [(y.name.data.toList ++ [58] ++ dtxt T y false x)]) [44] = A ++ [44] ++ ((y.name.data.toList ++ [58] ++ dtxt T y false x)) by rw [HA.out, hjs]; simp only [List.append_assoc])
        have d0 : decide (0 < k) = true := decide_eq_true (Nat.pos_of_ne_zero hk0)
        clear hjs hk0
        clear hle hRl hAl hcap hL0 hkl hk hnm
        go_upto_region 20 with fail
        clear cBF
        refine AnyE.region (S := fun w' => w'.cell? ⟨w.heap.size, 4, none⟩ = some (.slice (some ⟨b0, off0, none⟩) nf cu) ∧ w'.cell? ⟨w.heap.size + 1, 5, none⟩ = some (.slice (some ⟨b1, off1, none⟩) nf cf) ∧ (∀ (j : Nat) (v : Value), (#[.bool x.no, .int .i64 x.v.k, .int .i64 x.v.n, .string x.v.s, .slice xau x.l.length xcu, .slice xaf x.f.length xcf] : Array Value)[j]? = some v → w'.cell? ⟨b1, off1 + k * 6 + j, none⟩ = some v) ∧ (∀ (j : Nat) (v : Value), (#[.int .i64 y.id, .string y.name, .int .i64 y.rep, .int .i64 y.kind, .slice yau y.sub.length ycu] : Array Value)[j]? = some v → w'.cell? ⟨b0, off0 + k * 5 + j, none⟩ = some v) ∧ w'.cell? ⟨b0, off0 + k * 5 + 1, none⟩ = some (.string y.name)) (E := []) (by kernel_rfl) ?_
        have hbx := (Below.refl wr.heap.size wr).drew
        have hbw3 := HBW.out.trans (hbx.mono HBW.out.size)
        have hcl := HI.out wr.drew ((HNY.out.under (hbx.mono HBW.out.size)).mono fun b hb _ => Nat.lt_of_lt_of_le hb hbw3.size) (fun z hz => HO.out z (by rw [nodes_eq]; exact List.mem_cons_of_mem _ (nodesL_mem HYM.out hz))) (fun z hz => HR.out z (by rw [nodes_eq]; exact List.mem_cons_of_mem _ (nodesL_mem HYM.out hz))) (fun z hz => HKK.out z (by rw [nodes_eq]; exact List.mem_cons_of_mem _ (nodesL_mem HYM.out hz))) ((HU.out.under (hbx.mono HBW.out.size)).mono fun b hb _ => Nat.lt_of_lt_of_le hb hbw3.size) ((HT.out.under (hbx.mono HBW.out.size)).mono fun b hb _ => Nat.lt_of_lt_of_le hb hbw3.size) (fun z hz => HDf.out z (dtsL_mem HXM.out hz)) (HZF.out k y x HY.out HX.out) (fun z hz => HS4.out z (by rw [nodes_eq]; exact List.mem_cons_of_mem _ (nodesL_mem HYM.out hz))) HLEN.out
        replace RBr := Lib.hid (row_keep hbx RBr.out); replace RAr := Lib.hid (row_keep hbx RAr.out); replace HBr := Lib.hid (HBr.out.trans (hbx.mono HBr.out.size))
        have hS := (⟨rowc RAr.out 4, rowc RBr.out 5, fun j v hj => (hbx.cell (p := ⟨b1, off1 + k * 6 + j, none⟩) (block_lt_of_cell (HCX.out j v hj))).trans (HCX.out j v hj), fun j v hj => (hbx.cell (p := ⟨b0, off0 + k * 5 + j, none⟩) (block_lt_of_cell (HCY.out j v hj))).trans (HCY.out j v hj), (hbx.cell (p := ⟨b0, off0 + k * 5 + 1, none⟩) (block_lt_of_cell (HCY.out 1 _ rfl))).trans (HCY.out 1 _ rfl)⟩ : (fun w' => w'.cell? ⟨w.heap.size, 4, none⟩ = some (.slice (some ⟨b0, off0, none⟩) nf cu) ∧ w'.cell? ⟨w.heap.size + 1, 5, none⟩ = some (.slice (some ⟨b1, off1, none⟩) nf cf) ∧ (∀ (j : Nat) (v : Value), (#[.bool x.no, .int .i64 x.v.k, .int .i64 x.v.n, .string x.v.s, .slice xau x.l.length xcu, .slice xaf x.f.length xcf] : Array Value)[j]? = some v → w'.cell? ⟨b1, off1 + k * 6 + j, none⟩ = some v) ∧ (∀ (j : Nat) (v : Value), (#[.int .i64 y.id, .string y.name, .int .i64 y.rep, .int .i64 y.kind, .slice yau y.sub.length ycu] : Array Value)[j]? = some v → w'.cell? ⟨b0, off0 + k * 5 + j, none⟩ = some v) ∧ w'.cell? ⟨b0, off0 + k * 5 + 1, none⟩ = some (.string y.name)) wr.drew)
        unfold TextRet strV at hcl
        have HCL := Lib.hid hcl
        replace HCX := Lib.hid hS.2.2.1
        replace HCY := Lib.hid hS.2.2.2.1
        clear hbx hbw3 hcl
        generalize wr.drew = wd at *
        refine AnyE.take (i := 0) (v := ?_) rfl (by kernel_rfl) (by kernel_rfl) (by kernel_rfl) (by kernel_rfl) (by kernel_rfl) (fun _ _ _ h => h) (Or.inl ⟨by rfl, ?_⟩) hS ?_
        rotate_left
        focus (intro wq hSq; obtain ⟨hS1, hS2, hS3, hS4, hS5⟩ := hSq; go_simp; with_reducible rfl)
        try simp only [Act.put, List.getElem_toArray, List.getElem_cons_succ, List.getElem_cons_zero, List.setIfInBounds_toArray, List.set_cons_zero, List.set_cons_succ]
        refine AnyE.take (i := 1) (v := ?_) rfl (by kernel_rfl) (by kernel_rfl) (by kernel_rfl) (by kernel_rfl) (by kernel_rfl) (fun _ _ _ h => h) (Or.inl ⟨by rfl, ?_⟩) hS ?_
        rotate_left
        focus (intro wq hSq; obtain ⟨hS1, hS2, hS3, hS4, hS5⟩ := hSq; go_simp; with_reducible rfl)
        try simp only [Act.put, List.getElem_toArray, List.getElem_cons_succ, List.getElem_cons_zero, List.setIfInBounds_toArray, List.set_cons_zero, List.set_cons_succ]
        refine AnyE.take (i := 2) (v := ?_) rfl (by kernel_rfl) (by kernel_rfl) (by kernel_rfl) (by kernel_rfl) (by kernel_rfl) (fun _ _ _ h => h) (Or.inl ⟨by rfl, ?_⟩) hS ?_
        rotate_left
        focus (intro wq hSq; obtain ⟨hS1, hS2, hS3, hS4, hS5⟩ := hSq; go_simp; with_reducible rfl)
        try simp only [Act.put, List.getElem_toArray, List.getElem_cons_succ, List.getElem_cons_zero, List.setIfInBounds_toArray, List.set_cons_zero, List.set_cons_succ]
        refine AnyE.take (i := 3) (v := ?_) rfl (by kernel_rfl) (by kernel_rfl) (by kernel_rfl) (by kernel_rfl) (by kernel_rfl) (fun _ _ _ h => h) (Or.inl ⟨by rfl, ?_⟩) hS ?_
        rotate_left
        focus (intro wq hSq; obtain ⟨hS1, hS2, hS3, hS4, hS5⟩ := hSq; go_simp; with_reducible rfl)
        try simp only [Act.put, List.getElem_toArray, List.getElem_cons_succ, List.getElem_cons_zero, List.setIfInBounds_toArray, List.set_cons_zero, List.set_cons_succ]
        refine AnyE.take (i := 4) (v := ?_) rfl (by kernel_rfl) (by kernel_rfl) (by kernel_rfl) (by kernel_rfl) (by kernel_rfl) (fun _ _ _ h => h) (Or.inl ⟨by rfl, ?_⟩) hS ?_
        rotate_left
        focus (intro wq hSq; obtain ⟨hS1, hS2, hS3, hS4, hS5⟩ := hSq; go_simp; with_reducible rfl)
        try simp only [Act.put, List.getElem_toArray, List.getElem_cons_succ, List.getElem_cons_zero, List.setIfInBounds_toArray, List.set_cons_zero, List.set_cons_succ]
        refine AnyE.take (i := 5) (v := ?_) rfl (by kernel_rfl) (by kernel_rfl) (by kernel_rfl) (by kernel_rfl) (by kernel_rfl) (fun _ _ _ h => h) (Or.inl ⟨by rfl, ?_⟩) hS ?_
        rotate_left
        focus (intro wq hSq; obtain ⟨hS1, hS2, hS3, hS4, hS5⟩ := hSq; go_simp; with_reducible rfl)
        try simp only [Act.put, List.getElem_toArray, List.getElem_cons_succ, List.getElem_cons_zero, List.setIfInBounds_toArray, List.set_cons_zero, List.set_cons_succ]
        refine AnyE.take (i := 6) (v := ?_) rfl (by kernel_rfl) (by kernel_rfl) (by kernel_rfl) (by kernel_rfl) (by kernel_rfl) (fun _ _ _ h => h) (Or.inl ⟨by rfl, ?_⟩) hS ?_
        rotate_left
        focus (intro wq hSq; obtain ⟨hS1, hS2, hS3, hS4, hS5⟩ := hSq; go_simp; with_reducible rfl)
        try simp only [Act.put, List.getElem_toArray, List.getElem_cons_succ, List.getElem_cons_zero, List.setIfInBounds_toArray, List.set_cons_zero, List.set_cons_succ]
        refine AnyE.take (i := 7) (v := ?_) rfl (by kernel_rfl) (by kernel_rfl) (by kernel_rfl) (by kernel_rfl) (by kernel_rfl) (fun _ _ _ h => h) (Or.inl ⟨by rfl, ?_⟩) hS ?_
        rotate_left
        focus (intro wq hSq; obtain ⟨hS1, hS2, hS3, hS4, hS5⟩ := hSq; go_simp; with_reducible rfl)
        try simp only [Act.put, List.getElem_toArray, List.getElem_cons_succ, List.getElem_cons_zero, List.setIfInBounds_toArray, List.set_cons_zero, List.set_cons_succ]
        refine AnyE.take (i := 8) (v := ?_) rfl (by kernel_rfl) (by kernel_rfl) (by kernel_rfl) (by kernel_rfl) (by kernel_rfl) (fun _ _ _ h => h) (Or.inl ⟨by rfl, ?_⟩) hS ?_
        rotate_left
        focus (intro wq hSq; obtain ⟨hS1, hS2, hS3, hS4, hS5⟩ := hSq; go_simp; with_reducible rfl)
        try simp only [Act.put, List.getElem_toArray, List.getElem_cons_succ, List.getElem_cons_zero, List.setIfInBounds_toArray, List.set_cons_zero, List.set_cons_succ]
        refine AnyE.take (i := 9) (v := ?_) rfl (by kernel_rfl) (by kernel_rfl) (by kernel_rfl) (by kernel_rfl) (by kernel_rfl) (fun _ _ _ h => h) (Or.inl ⟨by rfl, ?_⟩) hS ?_
        rotate_left
        focus (intro wq hSq; obtain ⟨hS1, hS2, hS3, hS4, hS5⟩ := hSq; go_simp; with_reducible rfl)
        try simp only [Act.put, List.getElem_toArray, List.getElem_cons_succ, List.getElem_cons_zero, List.setIfInBounds_toArray, List.set_cons_zero, List.set_cons_succ]
        refine AnyE.take (i := 10) (v := ?_) rfl (by kernel_rfl) (by kernel_rfl) (by kernel_rfl) (by kernel_rfl) (by kernel_rfl) (fun _ _ _ h => h) (Or.inl ⟨by rfl, ?_⟩) hS ?_
        rotate_left
        focus (intro wq hSq; obtain ⟨hS1, hS2, hS3, hS4, hS5⟩ := hSq; go_simp; with_reducible rfl)
        try simp only [Act.put, List.getElem_toArray, List.getElem_cons_succ, List.getElem_cons_zero, List.setIfInBounds_toArray, List.set_cons_zero, List.set_cons_succ]
        refine AnyE.take (i := 11) (v := ?_) rfl (by kernel_rfl) (by kernel_rfl) (by kernel_rfl) (by kernel_rfl) (by kernel_rfl) (fun _ _ _ h => h) (Or.inl ⟨by rfl, ?_⟩) hS ?_
        rotate_left
        focus (intro wq hSq; obtain ⟨hS1, hS2, hS3, hS4, hS5⟩ := hSq; go_simp; with_reducible rfl)
        try simp only [Act.put, List.getElem_toArray, List.getElem_cons_succ, List.getElem_cons_zero, List.setIfInBounds_toArray, List.set_cons_zero, List.set_cons_succ]
        refine AnyE.take (i := 12) (v := ?_) rfl (by kernel_rfl) (by kernel_rfl) (by kernel_rfl) (by kernel_rfl) (by kernel_rfl) (fun _ _ _ h => h) (Or.inl ⟨by rfl, ?_⟩) hS ?_
        rotate_left
        focus (intro wq hSq; obtain ⟨hS1, hS2, hS3, hS4, hS5⟩ := hSq; go_simp; with_reducible rfl)
        try simp only [Act.put, List.getElem_toArray, List.getElem_cons_succ, List.getElem_cons_zero, List.setIfInBounds_toArray, List.set_cons_zero, List.set_cons_succ]
        refine AnyE.take (i := 13) (v := .agg #[.int .i64 y.id, .string y.name, .int .i64 y.rep, .int .i64 y.kind, .slice yau y.sub.length ycu]) rfl (by kernel_rfl) (by kernel_rfl) (by kernel_rfl) (by kernel_rfl) (by kernel_rfl) (fun _ _ _ h => h) (yields_load 24 _ rfl rfl b0 (off0 + k * 5) rfl #[.int .i64 y.id, .string y.name, .int .i64 y.rep, .int .i64 y.kind, .slice yau y.sub.length ycu] _ (fun w h => h.2.2.2.1) Tryz.underlying24 rfl (by kernel_rfl)) hS ?_
        try simp only [Act.put, List.getElem_toArray, List.getElem_cons_succ, List.getElem_cons_zero, List.setIfInBounds_toArray, List.set_cons_zero, List.set_cons_succ]
        refine AnyE.take (i := 14) (v := ?_) rfl (by kernel_rfl) (by kernel_rfl) (by kernel_rfl) (by kernel_rfl) (by kernel_rfl) (fun _ _ _ h => h) (Or.inl ⟨by rfl, ?_⟩) hS ?_
        rotate_left
        focus (intro wq hSq; obtain ⟨hS1, hS2, hS3, hS4, hS5⟩ := hSq; go_simp; with_reducible rfl)
        try simp only [Act.put, List.getElem_toArray, List.getElem_cons_succ, List.getElem_cons_zero, List.setIfInBounds_toArray, List.set_cons_zero, List.set_cons_succ]
        refine AnyE.take (i := 15) (v := ?_) rfl (by kernel_rfl) (by kernel_rfl) (by kernel_rfl) (by kernel_rfl) (by kernel_rfl) (fun _ _ _ h => h) (Or.inl ⟨by rfl, ?_⟩) hS ?_
        rotate_left
        focus (intro wq hSq; obtain ⟨hS1, hS2, hS3, hS4, hS5⟩ := hSq; go_simp; with_reducible rfl)
        try simp only [Act.put, List.getElem_toArray, List.getElem_cons_succ, List.getElem_cons_zero, List.setIfInBounds_toArray, List.set_cons_zero, List.set_cons_succ]
        refine AnyE.take (i := 16) (v := ?_) rfl (by kernel_rfl) (by kernel_rfl) (by kernel_rfl) (by kernel_rfl) (by kernel_rfl) (fun _ _ _ h => h) (Or.inl ⟨by rfl, ?_⟩) hS ?_
        rotate_left
        focus (intro wq hSq; obtain ⟨hS1, hS2, hS3, hS4, hS5⟩ := hSq; go_simp; with_reducible rfl)
        try simp only [Act.put, List.getElem_toArray, List.getElem_cons_succ, List.getElem_cons_zero, List.setIfInBounds_toArray, List.set_cons_zero, List.set_cons_succ]
        refine AnyE.take (i := 17) (v := ?_) rfl (by kernel_rfl) (by kernel_rfl) (by kernel_rfl) (by kernel_rfl) (by kernel_rfl) (fun _ _ _ h => h) (Or.inl ⟨by rfl, ?_⟩) hS ?_
        rotate_left
        focus (intro wq hSq; obtain ⟨hS1, hS2, hS3, hS4, hS5⟩ := hSq; go_simp; with_reducible rfl)
        try simp only [Act.put, List.getElem_toArray, List.getElem_cons_succ, List.getElem_cons_zero, List.setIfInBounds_toArray, List.set_cons_zero, List.set_cons_succ]
        refine AnyE.take (i := 18) (v := .agg #[.bool x.no, .int .i64 x.v.k, .int .i64 x.v.n, .string x.v.s, .slice xau x.l.length xcu, .slice xaf x.f.length xcf]) rfl (by kernel_rfl) (by kernel_rfl) (by kernel_rfl) (by kernel_rfl) (by kernel_rfl) (fun _ _ _ h => h) (yields_load 29 _ rfl rfl b1 (off1 + k * 6) rfl #[.bool x.no, .int .i64 x.v.k, .int .i64 x.v.n, .string x.v.s, .slice xau x.l.length xcu, .slice xaf x.f.length xcf] _ (fun w h => h.2.2.1) Tryz.underlying29 rfl (by kernel_rfl)) hS ?_
        try simp only [Act.put, List.getElem_toArray, List.getElem_cons_succ, List.getElem_cons_zero, List.setIfInBounds_toArray, List.set_cons_zero, List.set_cons_succ]
        refine AnyE.one (i := 19) (by kernel_rfl) rfl rfl ?_
        intro K hK
        simp only [List.getElem_toArray, List.getElem_cons_succ, List.getElem_cons_zero]
        go_simp
        refine HCL.out.mono ?_; rintro e w4 ⟨rfl, hb4⟩
        replace RAr := Lib.hid (row_keep hb4 RAr.out); replace RBr := Lib.hid (row_keep hb4 RBr.out); replace HBr := Lib.hid (HBr.out.trans (hb4.mono HBr.out.size))
        have hS9 := (⟨rowc RAr.out 4, rowc RBr.out 5, fun j v hj => (hb4.cell (p := ⟨b1, off1 + k * 6 + j, none⟩) (block_lt_of_cell (HCX.out j v hj))).trans (HCX.out j v hj), fun j v hj => (hb4.cell (p := ⟨b0, off0 + k * 5 + j, none⟩) (block_lt_of_cell (HCY.out j v hj))).trans (HCY.out j v hj), (hb4.cell (p := ⟨b0, off0 + k * 5 + 1, none⟩) (block_lt_of_cell (HCY.out 1 _ rfl))).trans (HCY.out 1 _ rfl)⟩ : (fun w' => w'.cell? ⟨w.heap.size, 4, none⟩ = some (.slice (some ⟨b0, off0, none⟩) nf cu) ∧ w'.cell? ⟨w.heap.size + 1, 5, none⟩ = some (.slice (some ⟨b1, off1, none⟩) nf cf) ∧ (∀ (j : Nat) (v : Value), (#[.bool x.no, .int .i64 x.v.k, .int .i64 x.v.n, .string x.v.s, .slice xau x.l.length xcu, .slice xaf x.f.length xcf] : Array Value)[j]? = some v → w'.cell? ⟨b1, off1 + k * 6 + j, none⟩ = some v) ∧ (∀ (j : Nat) (v : Value), (#[.int .i64 y.id, .string y.name, .int .i64 y.rep, .int .i64 y.kind, .slice yau y.sub.length ycu] : Array Value)[j]? = some v → w'.cell? ⟨b0, off0 + k * 5 + j, none⟩ = some v) ∧ w'.cell? ⟨b0, off0 + k * 5 + 1, none⟩ = some (.string y.name)) w4)
        refine hK _ _ (fun _ => hS9) ?_
        clear hK K hS
        have hS := hS9
        clear hS9
        clear hb4 HCL
        try simp only [Act.put, List.getElem_toArray, List.getElem_cons_succ, List.getElem_cons_zero, List.setIfInBounds_toArray, List.set_cons_zero, List.set_cons_succ]
        refine AnyE.take (i := 20) (v := ?_) rfl (by kernel_rfl) (by kernel_rfl) (by kernel_rfl) (by kernel_rfl) (by kernel_rfl) (fun _ _ _ h => h) (Or.inl ⟨by rfl, ?_⟩) hS ?_
        rotate_left
        focus (intro wq hSq; obtain ⟨hS1, hS2, hS3, hS4, hS5⟩ := hSq; go_simp; with_reducible rfl)
        try simp only [Act.put, List.getElem_toArray, List.getElem_cons_succ, List.getElem_cons_zero, List.setIfInBounds_toArray, List.set_cons_zero, List.set_cons_succ]
        refine AnyE.take (i := 21) (v := ?_) rfl (by kernel_rfl) (by kernel_rfl) (by kernel_rfl) (by kernel_rfl) (by kernel_rfl) (fun _ _ _ h => h) (Or.inl ⟨by rfl, ?_⟩) hS ?_
        rotate_left
        focus (intro wq hSq; obtain ⟨hS1, hS2, hS3, hS4, hS5⟩ := hSq; go_simp; with_reducible rfl)
        try simp only [Act.put, List.getElem_toArray, List.getElem_cons_succ, List.getElem_cons_zero, List.setIfInBounds_toArray, List.set_cons_zero, List.set_cons_succ]
        refine AnyE.done (by kernel_rfl) ?_ _
        clear hS
        have hcap := HFB.out
        go_wp2_with fail
        go_roundw
        case rel => exact ⟨k + 1, A ++ [44] ++ ((y.name.data.toList ++ [58] ++ dtxt T y false x)), Hlt.out, by go_num, by rw [ba_app A [44]]; exact congrArg Value.string (ba4 (A ++ [44]) y.name (dtxt T y false x)), by rw [HVT.out]; exact HJ.out.symm, HBr.out⟩
        case measure => have := Hlt.out; simp [intOf]; omega
end Go.Proofs.YthfljcpfcnddhaaGreatDoor
