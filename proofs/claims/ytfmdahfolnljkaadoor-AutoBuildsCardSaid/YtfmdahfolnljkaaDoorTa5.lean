/- The walk of the document's NextOf. -/
import Derived.Test.YtfmdahfolnljkaaDoorTa4
import Derived.Test.YtfmdahfolnljkaaDoorRegE
namespace Go.Proofs.YtfmdahfolnljkaaDoor
set_option linter.unusedVariables false
set_option linter.unusedSimpArgs false
open Go Go.RowKit Go.ChangeShapes

theorem lv_small : (∀ n, ∀ (mr md : Int) (p : List Int), ∀ f ∈ lvN n mr md p, f.path.length ≤ p.length + hgt n) ∧ ∀ l, ∀ (mr md : Int) (p : List Int), ∀ f ∈ lvL l mr md p, f.path.length ≤ p.length + hgtL l := by
  refine tree2 (fun n h mr md p f hf => ?_) (fun mr md p f hf => by simp [lvL] at hf) (fun x r h1 h2 mr md p f hf => ?_)
  · rw [lvN_eq] at hf
    rw [hgt_eq]
    split at hf
    · have := h _ _ _ f hf; rw [List.length_append, List.length_singleton] at this; omega
    · obtain rfl := List.mem_singleton.1 hf
      show (p ++ [n.id]).length ≤ _
      rw [List.length_append, List.length_singleton]; omega
  · simp only [lvL, hgtL] at hf ⊢
    rcases List.mem_append.1 hf with hf | hf
    · have := h1 _ _ _ f hf; omega
    · have := h2 _ _ _ f hf; omega
theorem flatL5 (L : List (Lvf × Value)) : ∀ (i : Nat) p, L[i]? = some p → ∀ j, j < 5 → (L.flatMap lfC)[i * 5 + j]? = (lfC p)[j]? := by
  induction L with
  | nil => intro i p h; simp at h
  | cons a r ih =>
    intro i p h j hj
    rw [List.flatMap_cons]
    have e : (lfC a).length = 5 := rfl
    cases i with
    | zero => simp at h; subst h; rw [List.getElem?_append_left (by rw [e]; omega)]; simp
    | succ i => rw [List.getElem?_append_right (by rw [e]; omega), e, show (i + 1) * 5 + j - 5 = i * 5 + j by omega]; exact ih i p (by simpa using h) j hj
theorem lvs_at {B g n c : Nat} {w : World} {LO : List (Lvf × Value)} (h : LvsRow B w (.slice (some ⟨g, 0, none⟩) n c) LO) (hn : LO.length = n) (k : Nat) (p : Lvf × Value) (hk : LO[k]? = some p) :
    ∀ j v, (#[.int .i64 p.1.id, .int .i64 p.1.kind, .int .i64 p.1.mr, .int .i64 p.1.md, p.2] : Array Value)[j]? = some v → w.cell? ⟨g, k * 5 + j, none⟩ = some v := by
  subst hn
  intro j v hj
  have hj5 : j < 5 := by have := (Array.getElem?_eq_some_iff.1 hj).1; simpa using this
  have hkl := (List.getElem?_eq_some_iff.1 hk).1
  obtain ⟨a, c2, h2⟩ := own_form (h.2 p (List.mem_of_getElem? hk))
  rw [h.1.cellAt (k * 5 + j) (by omega), flatL5 LO k p hk j hj5, ← hj]
  have e : lfC p = [.int .i64 p.1.id, .int .i64 p.1.kind, .int .i64 p.1.mr, .int .i64 p.1.md, p.2] := by unfold lfC; rw [h2]; rfl
  rw [e]; simp
/-- a struct loaded from a place in a block, at an operation -/
theorem wp_load_cells {P : Program} {w : World} {o : Oper} {a : Act} {K : Act → World → Prop} {Q : Exit → Act → World → Prop} (ty : TypeId) (x : Operand) (ho : o.op = .load ty x)
    (b f : Nat) (hx : a.eval x = .pointer (some ⟨b, f, none⟩)) (cs : Array Value) (d : TypeDesc) (hc : ∀ j v, cs[j]? = some v → w.cell? ⟨b, f + j, none⟩ = some v)
    (hu : P.underlying ty = some d) (hd : (match d with | .struct _ | .array _ _ => true | _ => false) = true) (hi : (P.info? ty).map (·.size) = some cs.size)
    (h : K (a.put o.dst (.agg cs)) w) : Oper.wp P o a w K Q := by
  unfold Oper.wp execOp
  simp only [ho, hx, Instr.loadAt, Instr.sureAddr, Sem.run_bind, Sem.run_pure, Result.andThen_ok, run_loadVar_cells w b f ty cs d hc hu hd hi]
  exact h
theorem wrapi_len {a m : Nat} (h : a + 1 = m) (ha : a ≤ 1000) : IntKind.i64.wrap ((a : Int) + 1) = (m : Int) := by subst h; rw [IntKind.wrap_i64]; omega
theorem commonN_nil (l : List Int) : commonN l [] = 0 := by cases l <;> rfl
theorem toD_some {P : List (List Int)} {k r t : Nat} {x : Int} (hl : leastB P k < r) (hx : (P.getD k []).getD (r - 1) 0 = x) (ht : t < P.length) (hf : ∀ j < t, x ∉ P.getD j []) (hy : x ∈ P.getD t []) : toD P k r = (t : Int) := by
  unfold toD
  rw [if_pos hl, hx]
  have : ((List.range P.length).find? fun t => decide (x ∈ P.getD t [])) = some t := by
    rw [List.find?_range_eq_some]
    exact ⟨decide_eq_true hy, List.mem_range.2 ht, fun j hj => by simpa using hf j hj⟩
  rw [this]; rfl
def NextRet (n : Nd) (w : World) (e : Ending) (w' : World) : Prop := ∃ v LN, e = .returned v ∧ RowsAt w.heap.size w' v LN ∧ LN.map Prod.fst = (List.range (lsL n.sub []).length).map (rowD (lsL n.sub [])) ∧ Below w.heap.size w w'

set_option maxRecDepth 100000 in
set_option maxHeartbeats 16000000 in
theorem nextOf_any (n : Nd) (u : Value) (w : World) (hN : IsNds (· < w.heap.size) w u n.sub) (hO : ∀ x ∈ nodes n, x.Ok1) (hv : validE n = 0) :
    Calls Tryd.prog 11 #[.agg (ndA n u)] w (NextRet n w) := by
  obtain ⟨i0, hi, hz0, hz1, hz2⟩ := info_parts info_intN
  obtain ⟨i1, hj, hy0, hy1, hy2⟩ := info_parts rw_info
  obtain ⟨ad, cp, rfl⟩ := hN.form
  obtain ⟨len, hnl⟩ : ∃ len, n.sub.length = len := ⟨_, rfl⟩
  rw [hnl] at hN ⊢
  have hw1 : Below w.heap.size w (w.alloc (.cells #[.int .i64 n.id, .string n.name, .int .i64 n.rep, .int .i64 n.kind, .slice ad len cp] 24)) := (Below.refl _ _).alloc (Nat.le_refl _) _
  have hr0 := heap_alloc_new w (.cells #[.int .i64 n.id, .string n.name, .int .i64 n.rep, .int .i64 n.kind, .slice ad len cp] 24)
  have HB := Lib.hid hw1; have RN := Lib.hid hr0
  clear hw1 hr0
  unfold ndA
  go_enter Tryd.func11, Tryd.ntmps11
  go_upto_region 1 with fail
  generalize (w.alloc (.cells #[.int .i64 n.id, .string n.name, .int .i64 n.rep, .int .i64 n.kind, .slice ad len cp] 24)) = w1 at *
  have HL := Lib.hid (leavesOf_any n (.slice ad len cp) w1 ((hN.under HB.out).mono fun b hb _ => Nat.lt_of_lt_of_le hb HB.out.size) hO (valid_facts hv).1 (valid_shaped hv))
  unfold ndA at HL
  have cN := rowc RN.out
  go_wp2_with fail
  refine HL.out.mono ?_; rintro e w2 ⟨v3, LO, rfl, hlr, hlm, hb2⟩
  replace RN := Lib.hid (row_keep hb2 RN.out); replace HB := Lib.hid (HB.out.trans (hb2.mono HB.out.size))
  clear hb2 HL cN
  obtain ⟨P, hP⟩ : ∃ P, lsL n.sub [] = P := ⟨_, rfl⟩
  have hPL : LO.map (fun x => lsD (flatF [] n 1 (-1)) x.1.path) = P := by rw [← hP, ← valid_lists hv, ← hlm, List.map_map]; rfl
  have HLR := Lib.hid hlr; have HPL := Lib.hid hPL
  obtain ⟨a3, c3, rfl⟩ := own_form hlr.1
  obtain ⟨n5, hn5⟩ : ∃ n5, LO.length = n5 := ⟨_, rfl⟩
  have hPn : P.length = n5 := by rw [← hPL, List.length_map]; exact hn5
  have HN5 := Lib.hid hn5; have HPN := Lib.hid hPn
  rw [hn5]
  have hg := (valid_facts hv).1
  unfold goodB at hg
  rw [decide_eq_true_iff] at hg
  have hn40 : n5 ≤ 40 := by
    have h1 := lsL_len.2 n.sub []
    rw [hP, hPn] at h1
    have := hg.1; rw [size_eq] at this; omega
  have HN40 := Lib.hid hn40
  have hgt40 : hgtL n.sub ≤ 6 := by have := hg.2; rw [hgt_eq] at this; omega
  have hpl : ∀ p ∈ LO, p.1.path.length ≤ 1000 := fun p hp => by
    have h1 := lv_small.2 n.sub 0 0 [] p.1 (show p.1 ∈ leavesN n from hlm ▸ List.mem_map.2 ⟨p, hp, rfl⟩)
    have := hg.2; rw [hgt_eq] at this; simp at h1; omega
  have HLD := Lib.hid (fun (wx : World) (hb : Below w2.heap.size w2 wx) (k : Nat) (p : Lvf × Value) (hk : LO[k]? = some p) => listsOf_any n (.slice ad len cp) p.1.id p.1.kind p.1.mr p.1.md p.2 p.1.path wx ((hN.under (HB.out.trans (hb.mono HB.out.size))).mono fun b hb2 _ => Nat.lt_of_lt_of_le hb2 (Nat.le_trans HB.out.size hb.size)) hO (IsNums.of_own ((HLR.out.below hb).2 p (List.mem_of_getElem? hk))) (hpl p (List.mem_of_getElem? hk)))
  unfold ndA at HLD
  clear hlr hlm hn5 hPn hg hn40 hpl
  have hPk : ∀ (k : Nat) (p : Lvf × Value), LO[k]? = some p → lsD (flatF [] n 1 (-1)) p.1.path = P.getD k [] := fun k p hk => by rw [← hPL, List.getD_eq_getElem?_getD, List.getElem?_map, hk]; rfl
  have HPK := Lib.hid hPk
  have hPS : ∀ (k : Nat), (P.getD k []).length ≤ 1000 := fun k => by
    rcases Nat.lt_or_ge k P.length with hk | hk
    · have h1 := ls_small.2 n.sub [] (P.getD k []) (by rw [hP, List.getD_eq_getElem?_getD, List.getElem?_eq_getElem hk]; exact List.getElem_mem hk)
      have := hgt40; rw [List.length_nil] at h1; omega
    · rw [List.getD_eq_getElem?_getD, List.getElem?_eq_none hk]; simp
  have HPS := Lib.hid hPS
  clear hPk hPL hPS hgt40
  go_wp2_with fail
  go_loopw [4, 5] (fun s4 i wr => ∃ (k : Nat) (v4 : Value) (LN : List (List Int × Value)), k ≤ n5 ∧ i = .int .i64 (k : Nat) ∧ v4 = s4 ∧ Hid (RowsAt w2.heap.size wr v4 LN) ∧ Hid (LN.map Prod.fst = (List.range k).map (rowD P)) ∧ Hid (Below w2.heap.size w2 wr)) (fun _ i _ => n5 - (intOf i).toNat)
  case atStart => exact ⟨0, _, [], Nat.zero_le _, rfl, rfl, ⟨World.ownsRow_nil _ _ _ _, fun q hq => by simp at hq⟩, rfl, Below.refl _ _⟩
  case round =>
    obtain ⟨k, v4, LN, hk, rfl, hv4, HR, HM, HBr⟩ := hrel
    subst hv4
    by_cases hlt : k < n5
    · obtain ⟨q, hq⟩ : ∃ q, LO[k]? = some q := ⟨_, List.getElem?_eq_getElem (by rw [HN5.out]; exact hlt)⟩
      have hg3 : ∃ g3, a3 = some ⟨g3, 0, none⟩ := by
        rcases HLR.out.1.2 with ⟨h1, h0⟩ | ⟨g, cap, cur, h1, _⟩
        · rw [HN5.out] at h0; omega
        · injection h1 with h1; exact ⟨g, h1⟩
      obtain ⟨g3, rfl⟩ := hg3
      have hcq := lvs_at (HLR.out.below HBr.out) rfl k q hq
      have HQ := Lib.hid hq; have HCQ := Lib.hid hcq; have Hlt := Lib.hid hlt
      have RNr := Lib.hid ((HBr.out.block w.heap.size (Nat.lt_of_lt_of_le (row_lt RN.out) (Nat.le_refl _))).trans RN.out)
      have hin : (k : Int) < (n5 : Int) := Int.ofNat_lt.2 hlt
      clear hq hcq hlt
      go_upto_region 6 with fail
      refine AnyE.region (S := fun w' => (∀ j_1, w'.cell? ⟨w.heap.size, j_1, none⟩ = (#[.int .i64 n.id, .string n.name, .int .i64 n.rep, .int .i64 n.kind, .slice ad len cp] : Array Value)[j_1]?) ∧ (∀ (j : Nat) (v : Value), (#[.int .i64 q.1.id, .int .i64 q.1.kind, .int .i64 q.1.mr, .int .i64 q.1.md, q.2] : Array Value)[j]? = some v → w'.cell? ⟨g3, k * 5 + j, none⟩ = some v)) (E := []) (by kernel_rfl) ?_
      have hbd := (Below.refl wr.heap.size wr).drew
      replace HR := Lib.hid (HR.out.below hbd); replace HBr := Lib.hid (HBr.out.trans (hbd.mono HBr.out.size)); replace RNr := Lib.hid (row_keep hbd RNr.out)
      clear hbd HCQ
      generalize wr.drew = wd at *
      have hS := (⟨rowc RNr.out, lvs_at (HLR.out.below HBr.out) rfl k q HQ.out⟩ : (∀ j_1, wd.cell? ⟨w.heap.size, j_1, none⟩ = (#[.int .i64 n.id, .string n.name, .int .i64 n.rep, .int .i64 n.kind, .slice ad len cp] : Array Value)[j_1]?) ∧ (∀ (j : Nat) (v : Value), (#[.int .i64 q.1.id, .int .i64 q.1.kind, .int .i64 q.1.mr, .int .i64 q.1.md, q.2] : Array Value)[j]? = some v → wd.cell? ⟨g3, k * 5 + j, none⟩ = some v))
      refine AnyE.take (i := 0) (v := ?_) rfl (by kernel_rfl) (by kernel_rfl) (by kernel_rfl) (by kernel_rfl) (by kernel_rfl) (fun _ _ _ h => h) (Or.inl ⟨by rfl, ?_⟩) hS ?_
      rotate_left
      focus (intro wq hSq; obtain ⟨hS1, hS2⟩ := hSq; go_simp; with_reducible rfl)
      try simp only [Act.put, List.getElem_toArray, List.getElem_cons_succ, List.getElem_cons_zero, List.setIfInBounds_toArray, List.set_cons_zero, List.set_cons_succ]
      refine AnyE.take (i := 1) (v := ?_) rfl (by kernel_rfl) (by kernel_rfl) (by kernel_rfl) (by kernel_rfl) (by kernel_rfl) (fun _ _ _ h => h) (Or.inl ⟨by rfl, ?_⟩) hS ?_
      rotate_left
      focus (intro wq hSq; obtain ⟨hS1, hS2⟩ := hSq; go_simp; with_reducible rfl)
      try simp only [Act.put, List.getElem_toArray, List.getElem_cons_succ, List.getElem_cons_zero, List.setIfInBounds_toArray, List.set_cons_zero, List.set_cons_succ]
      refine AnyE.take (i := 2) (v := ?_) rfl (by kernel_rfl) (by kernel_rfl) (by kernel_rfl) (by kernel_rfl) (by kernel_rfl) (fun _ _ _ h => h) (Or.inl ⟨by rfl, ?_⟩) hS ?_
      rotate_left
      focus (intro wq hSq; obtain ⟨hS1, hS2⟩ := hSq; go_simp; with_reducible rfl)
      try simp only [Act.put, List.getElem_toArray, List.getElem_cons_succ, List.getElem_cons_zero, List.setIfInBounds_toArray, List.set_cons_zero, List.set_cons_succ]
      refine AnyE.take (i := 3) (v := ?_) rfl (by kernel_rfl) (by kernel_rfl) (by kernel_rfl) (by kernel_rfl) (by kernel_rfl) (fun _ _ _ h => h) (Or.inl ⟨by rfl, ?_⟩) hS ?_
      rotate_left
      focus (intro wq hSq; obtain ⟨hS1, hS2⟩ := hSq; go_simp; with_reducible rfl)
      try simp only [Act.put, List.getElem_toArray, List.getElem_cons_succ, List.getElem_cons_zero, List.setIfInBounds_toArray, List.set_cons_zero, List.set_cons_succ]
      refine AnyE.one (i := 4) (by kernel_rfl) rfl rfl ?_
      intro K hK
      simp only [List.getElem_toArray, List.getElem_cons_succ, List.getElem_cons_zero]
      refine wp_load_cells 41 _ rfl g3 (k * 5) rfl #[.int .i64 q.1.id, .int .i64 q.1.kind, .int .i64 q.1.mr, .int .i64 q.1.md, q.2] _ hS.2 Tryd.underlying41 rfl (by kernel_rfl) ?_
      refine hK _ _ (fun _ => hS) ?_
      clear hK K
      try simp only [Act.put, List.getElem_toArray, List.getElem_cons_succ, List.getElem_cons_zero, List.setIfInBounds_toArray, List.set_cons_zero, List.set_cons_succ]
      refine AnyE.one (i := 5) (by kernel_rfl) rfl rfl ?_
      intro K hK
      simp only [List.getElem_toArray, List.getElem_cons_succ, List.getElem_cons_zero]
      go_simp
      refine (HLD.out wd HBr.out k q HQ.out).mono ?_; rintro e w4 ⟨⟨v6, rfl, ho6⟩, hb4⟩
      rw [HPK.out k q HQ.out] at ho6
      replace HR := Lib.hid (HR.out.below hb4); replace HBr := Lib.hid (HBr.out.trans (hb4.mono HBr.out.size)); replace RNr := Lib.hid (row_keep hb4 RNr.out)
      have HO6 := Lib.hid ho6
      refine hK _ _ (fun _ => ⟨rowc RNr.out, lvs_at (HLR.out.below HBr.out) rfl k q HQ.out⟩) ?_
      clear hK K hS ho6 hb4
      try simp only [Act.put, List.getElem_toArray, List.getElem_cons_succ, List.getElem_cons_zero, List.setIfInBounds_toArray, List.set_cons_zero, List.set_cons_succ]
      have hS := (⟨rowc RNr.out, lvs_at (HLR.out.below HBr.out) rfl k q HQ.out⟩ : (∀ j_1, w4.cell? ⟨w.heap.size, j_1, none⟩ = (#[.int .i64 n.id, .string n.name, .int .i64 n.rep, .int .i64 n.kind, .slice ad len cp] : Array Value)[j_1]?) ∧ (∀ (j : Nat) (v : Value), (#[.int .i64 q.1.id, .int .i64 q.1.kind, .int .i64 q.1.mr, .int .i64 q.1.md, q.2] : Array Value)[j]? = some v → w4.cell? ⟨g3, k * 5 + j, none⟩ = some v))
      refine AnyE.one (i := 6) (by kernel_rfl) rfl rfl ?_
      intro K hK
      simp only [List.getElem_toArray, List.getElem_cons_succ, List.getElem_cons_zero]
      go_simp
      refine hK _ _ (fun _ => hS) ?_
      clear hK K hS
      try simp only [Act.put, List.getElem_toArray, List.getElem_cons_succ, List.getElem_cons_zero, List.setIfInBounds_toArray, List.set_cons_zero, List.set_cons_succ]
      refine AnyE.done (by kernel_rfl) ?_ _
      obtain ⟨px, hpx⟩ : ∃ px, P.getD k [] = px := ⟨_, rfl⟩
      have HPX := Lib.hid hpx
      rw [hpx] at HO6
      clear hpx
      obtain ⟨a6, c6, rfl⟩ := own_form HO6.out
      obtain ⟨m, hm⟩ : ∃ m, px.length = m := ⟨_, rfl⟩
      rw [hm]
      have HMM := Lib.hid hm
      have hm1 : m ≤ 1000 := by rw [← hm, ← HPX.out]; exact HPS.out _
      clear hm
      obtain ⟨k1, hk1⟩ : ∃ k1, k + 1 = k1 := ⟨_, rfl⟩
      have hwk : wrap64 ((k : Int) + 1) = (k1 : Int) := wrap64_len hk1 (Nat.le_trans (Nat.le_of_lt Hlt.out) (Nat.le_trans HN40.out (by decide)))
      have hwk2 : IntKind.i64.wrap ((k : Int) + 1) = (k1 : Int) := wrapi_len hk1 (Nat.le_trans (Nat.le_of_lt Hlt.out) (Nat.le_trans HN40.out (by decide)))
      have HK1 := Lib.hid hk1
      clear hk1
      go_upto_if 30 with fail
      go_cut [7] (fun s7 wx => s7 = .int .i64 (leastB P k : Nat) ∧ Below w4.heap.size w4 wx)
      case first =>
        by_cases h1 : k1 < n5
        case neg =>
          have hlb : leastB P k = 0 := by unfold leastB; rw [HK1.out, if_neg (by rw [HPN.out]; exact h1)]
          have h1' : ¬ (k1 : Int) < (n5 : Int) := fun h => h1 (Int.ofNat_lt.1 h)
          have HLB := Lib.hid hlb
          clear hlb h1
          go_wp2_with fail
          go_meet
          exact ⟨by rw [HLB.out]; rfl, Below.refl _ _⟩
        obtain ⟨r, hr⟩ : ∃ r, LO[k1]? = some r := ⟨_, List.getElem?_eq_getElem (by rw [HN5.out]; exact h1)⟩
        have h1' : (k1 : Int) < (n5 : Int) := Int.ofNat_lt.2 h1
        have HR1 := Lib.hid hr
        have hlb : leastB P k = commonN px (P.getD k1 []) := by unfold leastB; rw [HK1.out, if_pos (by rw [HPN.out]; exact h1), HPX.out]
        have HLB := Lib.hid hlb
        have HB4 := Lib.hid (Below.refl w4.heap.size w4)
        clear hlb h1 hr
        go_upto_region 9 with fail
        refine AnyE.region (S := fun w' => (∀ j_1, w'.cell? ⟨w.heap.size, j_1, none⟩ = (#[.int .i64 n.id, .string n.name, .int .i64 n.rep, .int .i64 n.kind, .slice ad len cp] : Array Value)[j_1]?) ∧ (∀ (j : Nat) (v : Value), (#[.int .i64 r.1.id, .int .i64 r.1.kind, .int .i64 r.1.mr, .int .i64 r.1.md, r.2] : Array Value)[j]? = some v → w'.cell? ⟨g3, k1 * 5 + j, none⟩ = some v)) (E := []) (by kernel_rfl) ?_
        have hbd := (Below.refl w4.heap.size w4).drew
        replace HBr := Lib.hid (HBr.out.trans (hbd.mono HBr.out.size)); replace RNr := Lib.hid (row_keep hbd RNr.out); replace HO6 := Lib.hid (own_blw HO6.out hbd); replace HB4 := Lib.hid hbd
        clear hbd
        generalize w4.drew = w5 at *
        have hS := (⟨rowc RNr.out, lvs_at (HLR.out.below HBr.out) rfl k1 r HR1.out⟩ : (∀ j_1, w5.cell? ⟨w.heap.size, j_1, none⟩ = (#[.int .i64 n.id, .string n.name, .int .i64 n.rep, .int .i64 n.kind, .slice ad len cp] : Array Value)[j_1]?) ∧ (∀ (j : Nat) (v : Value), (#[.int .i64 r.1.id, .int .i64 r.1.kind, .int .i64 r.1.mr, .int .i64 r.1.md, r.2] : Array Value)[j]? = some v → w5.cell? ⟨g3, k1 * 5 + j, none⟩ = some v))
        refine AnyE.take (i := 0) (v := ?_) rfl (by kernel_rfl) (by kernel_rfl) (by kernel_rfl) (by kernel_rfl) (by kernel_rfl) (fun _ _ _ h => h) (Or.inl ⟨by rfl, ?_⟩) hS ?_
        rotate_left
        focus (intro wq hSq; obtain ⟨hS1, hS2⟩ := hSq; go_simp; with_reducible rfl)
        try simp only [Act.put, List.getElem_toArray, List.getElem_cons_succ, List.getElem_cons_zero, List.setIfInBounds_toArray, List.set_cons_zero, List.set_cons_succ]
        refine AnyE.take (i := 1) (v := ?_) rfl (by kernel_rfl) (by kernel_rfl) (by kernel_rfl) (by kernel_rfl) (by kernel_rfl) (fun _ _ _ h => h) (Or.inl ⟨by rfl, ?_⟩) hS ?_
        rotate_left
        focus (intro wq hSq; obtain ⟨hS1, hS2⟩ := hSq; go_simp; with_reducible rfl)
        try simp only [Act.put, List.getElem_toArray, List.getElem_cons_succ, List.getElem_cons_zero, List.setIfInBounds_toArray, List.set_cons_zero, List.set_cons_succ]
        refine AnyE.take (i := 2) (v := ?_) rfl (by kernel_rfl) (by kernel_rfl) (by kernel_rfl) (by kernel_rfl) (by kernel_rfl) (fun _ _ _ h => h) (Or.inl ⟨by rfl, ?_⟩) hS ?_
        rotate_left
        focus (intro wq hSq; obtain ⟨hS1, hS2⟩ := hSq; go_simp; with_reducible rfl)
        try simp only [Act.put, List.getElem_toArray, List.getElem_cons_succ, List.getElem_cons_zero, List.setIfInBounds_toArray, List.set_cons_zero, List.set_cons_succ]
        refine AnyE.take (i := 3) (v := ?_) rfl (by kernel_rfl) (by kernel_rfl) (by kernel_rfl) (by kernel_rfl) (by kernel_rfl) (fun _ _ _ h => h) (Or.inl ⟨by rfl, ?_⟩) hS ?_
        rotate_left
        focus (intro wq hSq; obtain ⟨hS1, hS2⟩ := hSq; go_simp; with_reducible rfl)
        try simp only [Act.put, List.getElem_toArray, List.getElem_cons_succ, List.getElem_cons_zero, List.setIfInBounds_toArray, List.set_cons_zero, List.set_cons_succ]
        refine AnyE.take (i := 4) (v := ?_) rfl (by kernel_rfl) (by kernel_rfl) (by kernel_rfl) (by kernel_rfl) (by kernel_rfl) (fun _ _ _ h => h) (Or.inl ⟨by rfl, ?_⟩) hS ?_
        rotate_left
        focus (intro wq hSq; obtain ⟨hS1, hS2⟩ := hSq; go_simp; with_reducible rfl)
        try simp only [Act.put, List.getElem_toArray, List.getElem_cons_succ, List.getElem_cons_zero, List.setIfInBounds_toArray, List.set_cons_zero, List.set_cons_succ]
        refine AnyE.one (i := 5) (by kernel_rfl) rfl rfl ?_
        intro K hK
        simp only [List.getElem_toArray, List.getElem_cons_succ, List.getElem_cons_zero]
        refine wp_load_cells 41 _ rfl g3 (k1 * 5) rfl #[.int .i64 r.1.id, .int .i64 r.1.kind, .int .i64 r.1.mr, .int .i64 r.1.md, r.2] _ hS.2 Tryd.underlying41 rfl (by kernel_rfl) ?_
        refine hK _ _ (fun _ => hS) ?_
        clear hK K
        try simp only [Act.put, List.getElem_toArray, List.getElem_cons_succ, List.getElem_cons_zero, List.setIfInBounds_toArray, List.set_cons_zero, List.set_cons_succ]
        refine AnyE.one (i := 6) (by kernel_rfl) rfl rfl ?_
        intro K hK
        simp only [List.getElem_toArray, List.getElem_cons_succ, List.getElem_cons_zero]
        go_simp
        refine (HLD.out w5 HBr.out k1 r HR1.out).mono ?_; rintro e w6 ⟨⟨v8, rfl, ho8⟩, hb6⟩
        rw [HPK.out k1 r HR1.out] at ho8
        replace RNr := Lib.hid (row_keep hb6 RNr.out); replace HO6 := Lib.hid (own_blw HO6.out hb6); replace HBr := Lib.hid (HBr.out.trans (hb6.mono HBr.out.size)); replace HB4 := Lib.hid (HB4.out.trans (hb6.mono HB4.out.size))
        have HO8 := Lib.hid ho8
        refine hK _ _ (fun _ => ⟨rowc RNr.out, lvs_at (HLR.out.below HBr.out) rfl k1 r HR1.out⟩) ?_
        clear hK K hS ho8 hb6
        try simp only [Act.put, List.getElem_toArray, List.getElem_cons_succ, List.getElem_cons_zero, List.setIfInBounds_toArray, List.set_cons_zero, List.set_cons_succ]
        have hS := (⟨rowc RNr.out, lvs_at (HLR.out.below HBr.out) rfl k1 r HR1.out⟩ : (∀ j_1, w6.cell? ⟨w.heap.size, j_1, none⟩ = (#[.int .i64 n.id, .string n.name, .int .i64 n.rep, .int .i64 n.kind, .slice ad len cp] : Array Value)[j_1]?) ∧ (∀ (j : Nat) (v : Value), (#[.int .i64 r.1.id, .int .i64 r.1.kind, .int .i64 r.1.mr, .int .i64 r.1.md, r.2] : Array Value)[j]? = some v → w6.cell? ⟨g3, k1 * 5 + j, none⟩ = some v))
        refine AnyE.one (i := 7) (by kernel_rfl) rfl rfl ?_
        intro K hK
        simp only [List.getElem_toArray, List.getElem_cons_succ, List.getElem_cons_zero]
        go_simp
        refine hK _ _ (fun _ => hS) ?_
        clear hK K hS
        try simp only [Act.put, List.getElem_toArray, List.getElem_cons_succ, List.getElem_cons_zero, List.setIfInBounds_toArray, List.set_cons_zero, List.set_cons_succ]
        refine AnyE.done (by kernel_rfl) ?_ _
        obtain ⟨p2, hp2⟩ : ∃ p2, P.getD k1 [] = p2 := ⟨_, rfl⟩
        have ht0 := HPS.out k1
        rw [hp2] at HO8 HLB ht0
        have HT0 := Lib.hid ht0
        clear hp2 ht0
        obtain ⟨a8, c8, rfl⟩ := own_form HO8.out
        have HA := Lib.hid (IsNums.of_own (K := .i64) HO6.out); have HBB := Lib.hid (IsNums.of_own (K := .i64) HO8.out)
        clear hwk hwk2
        obtain ⟨t, ht⟩ : ∃ t, p2.length = t := ⟨_, rfl⟩
        rw [HMM.out] at HA
        rw [ht] at HBB ⊢
        have HTT := Lib.hid ht
        have ht1 : t ≤ 1000 := by rw [← ht]; exact HT0.out
        obtain ⟨R, hRR⟩ : ∃ R, leastB P k = R := ⟨_, rfl⟩
        rw [hRR] at HLB
        have HRR := Lib.hid hRR
        clear ht hRR HO6 HO8
        go_wp2_with fail
        go_loopw [7] (fun i wr => ∃ j : Nat, j ≤ m ∧ j ≤ t ∧ i = .int .i64 (j : Nat) ∧ Hid (j + commonN (px.drop j) (p2.drop j) = R) ∧ Hid (Below w6.heap.size w6 wr)) (fun i _ => m - (intOf i).toNat)
        case atStart => exact ⟨0, Nat.zero_le _, Nat.zero_le _, rfl, by show 0 + commonN px p2 = R; rw [Nat.zero_add]; exact HLB.out.symm, Below.refl _ _⟩
        case round =>
          obtain ⟨j, hj1, hj2, rfl, HE, HBx⟩ := hrel
          by_cases hlt : j < m
          case neg =>
            have hE := HE.out
            rw [List.drop_of_length_le (l := px) (by rw [HMM.out]; omega)] at hE
            obtain rfl : j = R := by
              have : commonN [] (p2.drop j) = 0 := rfl
              omega
            have d1 : decide (j < m) = false := decide_eq_false hlt
            clear hE HE
            go_wp2_with fail
            go_quiet (fail)
            go_wp2_with fail
            go_meet
            exact ⟨by rw [HRR.out], below_drewN (HB4.out.trans (HBx.out.mono HB4.out.size)) _⟩
          by_cases hlt2 : j < t
          case neg =>
            have hE := HE.out
            rw [List.drop_of_length_le (l := p2) (by rw [HTT.out]; omega)] at hE
            obtain rfl : j = R := by
              have := commonN_nil (px.drop j)
              omega
            have d1 : decide (j < m) = true := decide_eq_true hlt
            have d2 : decide (j < t) = false := decide_eq_false hlt2
            clear hE HE
            go_wp2_with fail
            go_quiet (fail)
            go_wp2_with fail
            go_meet
            exact ⟨by rw [HRR.out], below_drewN (HB4.out.trans (HBx.out.mono HB4.out.size)) _⟩
          have hka : j < px.length := by rw [HMM.out]; exact hlt
          have hkb : j < p2.length := by rw [HTT.out]; exact hlt2
          obtain ⟨g1, o1, rfl, -, -, hc1⟩ := (HA.out.below HBx.out (Nat.le_refl _)).at (by rw [HMM.out]; omega)
          obtain ⟨g2, o2, rfl, -, -, hc2⟩ := (HBB.out.below HBx.out (Nat.le_refl _)).at (by rw [HTT.out]; omega)
          have e1 := hc1 j _ (List.getElem?_eq_getElem hka); have e2 := hc2 j _ (List.getElem?_eq_getElem hkb)
          have hcd := common_drop px p2 j hka hkb _ _ (List.getElem?_eq_getElem hka) (List.getElem?_eq_getElem hkb)
          have hin1 : (j : Int) < (m : Int) := by omega
          have hin2 : (j : Int) < (t : Int) := by omega
          generalize px[j] = x at *
          generalize p2[j] = y at *
          have HCD := Lib.hid hcd
          have d1 : decide (j < m) = true := decide_eq_true hlt
          have d2 : decide (j < t) = true := decide_eq_true hlt2
          clear hc1 hc2 hka hkb hcd
          by_cases hxy : x = y
          · have hE := HE.out
            rw [HCD.out, if_pos hxy] at hE
            have HE2 := Lib.hid (show (j + 1) + commonN (px.drop (j + 1)) (p2.drop (j + 1)) = R by omega)
            have d3 : ((x : Int) == y) = true := by simpa using hxy
            clear hE hxy HE HCD
            go_wp2_with fail
            go_quiet (fail)
            go_wp2_with fail
            go_roundw
            case rel => exact ⟨j + 1, by omega, by omega, by go_num, HE2.out, below_drewN HBx.out _⟩
            case measure => simp [intOf]; omega
          · have hE := HE.out
            rw [HCD.out, if_neg hxy] at hE
            obtain rfl : j = R := by omega
            have d3 : ((x : Int) == y) = false := by simpa using hxy
            clear hE hxy HE HCD
            go_wp2_with fail
            go_quiet (fail)
            go_wp2_with fail
            go_meet
            exact ⟨by rw [HRR.out], below_drewN (HB4.out.trans (HBx.out.mono HB4.out.size)) _⟩
      case rest =>
      obtain ⟨hs7, hb7⟩ := hcut
      subst hs7
      replace HR := Lib.hid (HR.out.below hb7); replace HBr := Lib.hid (HBr.out.trans (hb7.mono HBr.out.size)); replace RNr := Lib.hid (row_keep hb7 RNr.out); replace HO6 := Lib.hid (own_blw HO6.out hb7)
      obtain ⟨wo, hwo⟩ : ∃ wo, wo = wc := ⟨_, rfl⟩; subst hwo
      clear hb7 hwk2
      obtain ⟨lv, hlv⟩ : ∃ lv, leastB P k = lv := ⟨_, rfl⟩
      rw [hlv]
      have HLV := Lib.hid hlv
      clear hlv
      have hlit := World.ownsRow_lit (base := wo.heap.size) (e := 3) (size := 1) wo #[.int .i64 (k1 : Int)] 1 (Nat.le_refl _) (by decide) rfl
      have hbe := (Below.refl wo.heap.size wo).alloc (Nat.le_refl _) (.cells #[.int .i64 (k1 : Int)] 3)
      have HLIT := Lib.hid hlit; have HBE := Lib.hid hbe
      clear hlit hbe
      go_wp2_with fail
      clear hwk
      go_loopw [9, 10] (fun s9 i wr => ∃ (r : Nat) (v9 : Value), 1 ≤ r ∧ r ≤ m + 1 ∧ i = .int .i64 (r : Nat) ∧ v9 = s9 ∧ Hid (wr.ownsRow wo.heap.size 3 1 v9 r (((List.range r).map (toD P k)).map intN)) ∧ Hid (Below wo.heap.size wo wr)) (fun _ i _ => m + 1 - (intOf i).toNat)
      case atStart =>
        refine ⟨1, _, Nat.le_refl _, Nat.succ_le_succ (Nat.zero_le _), rfl, rfl, ?_, HBE.out⟩
        have := HLIT.out
        have e : toD P k 0 = (k1 : Int) := by unfold toD; rw [if_neg (by omega), ← HK1.out]; rfl
        show World.ownsRow _ _ _ _ _ 1 [intN (toD P k 0)]
        rw [e]; exact this
      case round =>
        obtain ⟨r, v9, hr1, hr2, rfl, hv9, HO9, HB9⟩ := hrel
        subst hv9
        by_cases hrm : r ≤ m
        · have hrI : (r : Int) ≤ (m : Int) := Int.ofNat_le.2 hrm
          have hwk : wrap64 ((k : Int) + 1) = (k1 : Int) := wrap64_len HK1.out (Nat.le_trans (Nat.le_of_lt Hlt.out) (Nat.le_trans HN40.out (by decide)))
          have HR1 := Lib.hid hr1; have HRM := Lib.hid hrm
          clear hr1 hr2 hrm
          go_upto_if 74 with fail
          have HWK := Lib.hid hwk
          clear hwk
          go_cut [11] (fun s11 wx => s11 = .int .i64 (toD P k r) ∧ Below wr.heap.size wr wx)
          case first =>
            by_cases hl : lv < r
            case neg =>
              have hlI : ¬ (lv : Int) < (r : Int) := fun h => hl (Int.ofNat_lt.1 h)
              have hT : toD P k r = (k1 : Int) := by unfold toD; rw [HLV.out, if_neg hl, ← HK1.out]; rfl
              have HT := Lib.hid hT
              clear hl hT
              go_wp2_with fail
              go_meet
              exact ⟨by rw [HT.out, HWK.out], Below.refl _ _⟩
            have hlB : decide (lv < r) = true := decide_eq_true hl
            have HL0 := Lib.hid hl
            clear hl
            obtain ⟨x, hx⟩ : ∃ x, px.getD (r - 1) 0 = x := ⟨_, rfl⟩
            have HX := Lib.hid hx
            clear hx
            obtain ⟨wv, hwv⟩ : ∃ wv, wv = wr := ⟨_, rfl⟩; subst hwv
            go_wp2_with fail
            simp only [hlB]
            go_loopw [11] (fun i wr => ∃ t : Nat, t ≤ k ∧ i = .int .i64 (t : Nat) ∧ Hid (Below wv.heap.size wv wr) ∧ Hid (∀ j < t, x ∉ P.getD j [])) (fun i _ => k - (intOf i).toNat)
            case atStart => exact ⟨0, Nat.zero_le _, rfl, Below.refl _ _, fun j hj => absurd hj (Nat.not_lt_zero _)⟩
            case round =>
              obtain ⟨t, ht, rfl, HBt, HFt⟩ := hrel
              have htn : t < n5 := Nat.lt_of_le_of_lt ht Hlt.out
              obtain ⟨qt, hqt⟩ : ∃ qt, LO[t]? = some qt := ⟨_, List.getElem?_eq_getElem (by rw [HN5.out]; exact htn)⟩
              have HQT := Lib.hid hqt; have HTN := Lib.hid htn; have HTK := Lib.hid ht
              have hb0 := HB9.out.trans (HBt.out.mono HB9.out.size)
              have HB0 := Lib.hid hb0
              have RNt := Lib.hid (row_keep hb0 RNr.out); have HO6t := Lib.hid (own_blw HO6.out hb0)
              have HBrt := Lib.hid (HBr.out.trans (hb0.mono HBr.out.size))
              obtain ⟨rm, hrm⟩ : ∃ rm, r - 1 = rm := ⟨_, rfl⟩
              have hrmm : rm < m := by have := HR1.out; have := HRM.out; omega
              have hws : IntKind.i64.wrap ((r : Int) - 1) = ((rm : Nat) : Int) := by have := HR1.out; have := HRM.out; rw [IntKind.wrap_i64]; omega
              have hxm : px[rm]? = some x := by have hx := HX.out; rw [hrm, List.getD_eq_getElem?_getD, List.getElem?_eq_getElem (by rw [HMM.out]; exact hrmm)] at hx; rw [List.getElem?_eq_getElem (by rw [HMM.out]; exact hrmm)]; exact congrArg some hx
              have hxp : x ∈ P.getD k [] := by rw [HPX.out]; exact List.mem_of_getElem? hxm
              have HXP := Lib.hid hxp
              obtain ⟨g1, o1, h16, -, hg1, hc1⟩ := (IsNums.of_own (K := .i64) HO6t.out).at (by rw [HMM.out]; omega)
              subst h16
              have hcx := hc1 rm x hxm
              have HCX := Lib.hid hcx
              have hin1 : (t : Int) < (n5 : Int) := Int.ofNat_lt.2 htn
              have hin2 : ((rm : Nat) : Int) < (m : Int) := Int.ofNat_lt.2 hrmm
              clear hc1 hqt htn ht hb0 hrm hrmm hxm hxp
              go_upto_region 19 with fail
              refine AnyE.region (S := fun w' => (∀ j_1, w'.cell? ⟨w.heap.size, j_1, none⟩ = (#[.int .i64 n.id, .string n.name, .int .i64 n.rep, .int .i64 n.kind, .slice ad len cp] : Array Value)[j_1]?) ∧ (∀ (j : Nat) (v : Value), (#[.int .i64 qt.1.id, .int .i64 qt.1.kind, .int .i64 qt.1.mr, .int .i64 qt.1.md, qt.2] : Array Value)[j]? = some v → w'.cell? ⟨g3, t * 5 + j, none⟩ = some v) ∧ w'.cell? ⟨g1, o1 + rm, none⟩ = some (.int .i64 x)) (E := []) (by kernel_rfl) ?_
              have hbd := (Below.refl wr.heap.size wr).drew
              have hgw : g1 < wr.heap.size := hg1
              replace HBrt := Lib.hid (HBrt.out.trans (hbd.mono HBrt.out.size)); replace RNt := Lib.hid (row_keep hbd RNt.out); replace HBt := Lib.hid (HBt.out.trans (hbd.mono HBt.out.size)); replace HCX := Lib.hid ((hbd.cell (p := ⟨g1, o1 + rm, none⟩) hgw).trans HCX.out)
              have HG1 := Lib.hid (Nat.lt_of_lt_of_le hgw hbd.size)
              clear hbd hcx hg1 hgw HO6t
              generalize wr.drew = wd at *
              have hS := (⟨rowc RNt.out, lvs_at (HLR.out.below HBrt.out) rfl t qt HQT.out, HCX.out⟩ : (fun w' => (∀ j_1, w'.cell? ⟨w.heap.size, j_1, none⟩ = (#[.int .i64 n.id, .string n.name, .int .i64 n.rep, .int .i64 n.kind, .slice ad len cp] : Array Value)[j_1]?) ∧ (∀ (j : Nat) (v : Value), (#[.int .i64 qt.1.id, .int .i64 qt.1.kind, .int .i64 qt.1.mr, .int .i64 qt.1.md, qt.2] : Array Value)[j]? = some v → w'.cell? ⟨g3, t * 5 + j, none⟩ = some v) ∧ w'.cell? ⟨g1, o1 + rm, none⟩ = some (.int .i64 x)) wd)
              refine AnyE.take (i := 0) (v := ?_) rfl (by kernel_rfl) (by kernel_rfl) (by kernel_rfl) (by kernel_rfl) (by kernel_rfl) (fun _ _ _ h => h) (Or.inl ⟨by rfl, ?_⟩) hS ?_
              rotate_left
              focus (intro wq hSq; obtain ⟨hS1, hS2, hS3⟩ := hSq; go_simp; with_reducible rfl)
              try simp only [Act.put, List.getElem_toArray, List.getElem_cons_succ, List.getElem_cons_zero, List.setIfInBounds_toArray, List.set_cons_zero, List.set_cons_succ]
              refine AnyE.take (i := 1) (v := ?_) rfl (by kernel_rfl) (by kernel_rfl) (by kernel_rfl) (by kernel_rfl) (by kernel_rfl) (fun _ _ _ h => h) (Or.inl ⟨by rfl, ?_⟩) hS ?_
              rotate_left
              focus (intro wq hSq; obtain ⟨hS1, hS2, hS3⟩ := hSq; go_simp; with_reducible rfl)
              try simp only [Act.put, List.getElem_toArray, List.getElem_cons_succ, List.getElem_cons_zero, List.setIfInBounds_toArray, List.set_cons_zero, List.set_cons_succ]
              refine AnyE.take (i := 2) (v := ?_) rfl (by kernel_rfl) (by kernel_rfl) (by kernel_rfl) (by kernel_rfl) (by kernel_rfl) (fun _ _ _ h => h) (Or.inl ⟨by rfl, ?_⟩) hS ?_
              rotate_left
              focus (intro wq hSq; obtain ⟨hS1, hS2, hS3⟩ := hSq; go_simp; with_reducible rfl)
              try simp only [Act.put, List.getElem_toArray, List.getElem_cons_succ, List.getElem_cons_zero, List.setIfInBounds_toArray, List.set_cons_zero, List.set_cons_succ]
              refine AnyE.take (i := 3) (v := ?_) rfl (by kernel_rfl) (by kernel_rfl) (by kernel_rfl) (by kernel_rfl) (by kernel_rfl) (fun _ _ _ h => h) (Or.inl ⟨by rfl, ?_⟩) hS ?_
              rotate_left
              focus (intro wq hSq; obtain ⟨hS1, hS2, hS3⟩ := hSq; go_simp; with_reducible rfl)
              try simp only [Act.put, List.getElem_toArray, List.getElem_cons_succ, List.getElem_cons_zero, List.setIfInBounds_toArray, List.set_cons_zero, List.set_cons_succ]
              refine AnyE.take (i := 6) (v := ?_) rfl (by kernel_rfl) (by kernel_rfl) (by kernel_rfl) (by kernel_rfl) (by kernel_rfl) (fun _ _ _ h => h) (Or.inl ⟨by rfl, ?_⟩) hS ?_
              rotate_left
              focus (intro wq hSq; obtain ⟨hS1, hS2, hS3⟩ := hSq; go_simp; with_reducible rfl)
              try simp only [Act.put, List.getElem_toArray, List.getElem_cons_succ, List.getElem_cons_zero, List.setIfInBounds_toArray, List.set_cons_zero, List.set_cons_succ]
              refine AnyE.take (i := 7) (v := ?_) rfl (by kernel_rfl) (by kernel_rfl) (by kernel_rfl) (by kernel_rfl) (by kernel_rfl) (fun _ _ _ h => h) (Or.inl ⟨by rfl, ?_⟩) hS ?_
              rotate_left
              focus (intro wq hSq; obtain ⟨hS1, hS2, hS3⟩ := hSq; go_simp; with_reducible rfl)
              try simp only [Act.put, List.getElem_toArray, List.getElem_cons_succ, List.getElem_cons_zero, List.setIfInBounds_toArray, List.set_cons_zero, List.set_cons_succ]
              refine AnyE.take (i := 8) (v := ?_) rfl (by kernel_rfl) (by kernel_rfl) (by kernel_rfl) (by kernel_rfl) (by kernel_rfl) (fun _ _ _ h => h) (Or.inl ⟨by rfl, ?_⟩) hS ?_
              rotate_left
              focus (intro wq hSq; obtain ⟨hS1, hS2, hS3⟩ := hSq; go_simp; with_reducible rfl)
              try simp only [Act.put, List.getElem_toArray, List.getElem_cons_succ, List.getElem_cons_zero, List.setIfInBounds_toArray, List.set_cons_zero, List.set_cons_succ]
              refine AnyE.take (i := 9) (v := ?_) rfl (by kernel_rfl) (by kernel_rfl) (by kernel_rfl) (by kernel_rfl) (by kernel_rfl) (fun _ _ _ h => h) (Or.inl ⟨by rfl, ?_⟩) hS ?_
              rotate_left
              focus (intro wq hSq; obtain ⟨hS1, hS2, hS3⟩ := hSq; go_simp; with_reducible rfl)
              try simp only [Act.put, List.getElem_toArray, List.getElem_cons_succ, List.getElem_cons_zero, List.setIfInBounds_toArray, List.set_cons_zero, List.set_cons_succ]
              refine AnyE.take (i := 10) (v := ?_) rfl (by kernel_rfl) (by kernel_rfl) (by kernel_rfl) (by kernel_rfl) (by kernel_rfl) (fun _ _ _ h => h) (Or.inl ⟨by rfl, ?_⟩) hS ?_
              rotate_left
              focus (intro wq hSq; obtain ⟨hS1, hS2, hS3⟩ := hSq; go_simp; with_reducible rfl)
              try simp only [Act.put, List.getElem_toArray, List.getElem_cons_succ, List.getElem_cons_zero, List.setIfInBounds_toArray, List.set_cons_zero, List.set_cons_succ]
              refine AnyE.one (i := 4) (by kernel_rfl) rfl rfl ?_
              intro K hK
              simp only [List.getElem_toArray, List.getElem_cons_succ, List.getElem_cons_zero]
              refine wp_load_cells 41 _ rfl g3 (t * 5) rfl #[.int .i64 qt.1.id, .int .i64 qt.1.kind, .int .i64 qt.1.mr, .int .i64 qt.1.md, qt.2] _ hS.2.1 Tryd.underlying41 rfl (by kernel_rfl) ?_
              refine hK _ _ (fun _ => hS) ?_
              clear hK K
              try simp only [Act.put, List.getElem_toArray, List.getElem_cons_succ, List.getElem_cons_zero, List.setIfInBounds_toArray, List.set_cons_zero, List.set_cons_succ]
              refine AnyE.one (i := 5) (by kernel_rfl) rfl rfl ?_
              intro K hK
              simp only [List.getElem_toArray, List.getElem_cons_succ, List.getElem_cons_zero]
              go_simp
              refine (HLD.out wd HBrt.out t qt HQT.out).mono ?_; rintro e w8 ⟨⟨v8, rfl, ho8⟩, hb8⟩
              rw [HPK.out t qt HQT.out] at ho8
              replace RNt := Lib.hid (row_keep hb8 RNt.out); replace HBrt := Lib.hid (HBrt.out.trans (hb8.mono HBrt.out.size)); replace HBt := Lib.hid (HBt.out.trans (hb8.mono HBt.out.size)); replace HCX := Lib.hid ((hb8.cell (p := ⟨g1, o1 + rm, none⟩) HG1.out).trans HCX.out)
              have HO8 := Lib.hid ho8
              refine hK _ _ (fun _ => ⟨rowc RNt.out, lvs_at (HLR.out.below HBrt.out) rfl t qt HQT.out, HCX.out⟩) ?_
              clear hK K hS ho8 hb8
              try simp only [Act.put, List.getElem_toArray, List.getElem_cons_succ, List.getElem_cons_zero, List.setIfInBounds_toArray, List.set_cons_zero, List.set_cons_succ]
              have hS := (⟨rowc RNt.out, lvs_at (HLR.out.below HBrt.out) rfl t qt HQT.out, HCX.out⟩ : (fun w' => (∀ j_1, w'.cell? ⟨w.heap.size, j_1, none⟩ = (#[.int .i64 n.id, .string n.name, .int .i64 n.rep, .int .i64 n.kind, .slice ad len cp] : Array Value)[j_1]?) ∧ (∀ (j : Nat) (v : Value), (#[.int .i64 qt.1.id, .int .i64 qt.1.kind, .int .i64 qt.1.mr, .int .i64 qt.1.md, qt.2] : Array Value)[j]? = some v → w'.cell? ⟨g3, t * 5 + j, none⟩ = some v) ∧ w'.cell? ⟨g1, o1 + rm, none⟩ = some (.int .i64 x)) w8)
              obtain ⟨bx, hbx⟩ : ∃ bx, decide (x ∈ P.getD t []) = bx := ⟨_, rfl⟩
              have HBX := Lib.hid hbx
              have hHI := hasInt_any v8 (P.getD t []) x w8 (IsNums.of_own (K := .i64) HO8.out) (Nat.le_trans (HPS.out t) (by decide))
              rw [hbx] at hHI
              clear hbx
              refine AnyE.one (i := 11) (by kernel_rfl) rfl rfl ?_
              intro K hK
              simp only [List.getElem_toArray, List.getElem_cons_succ, List.getElem_cons_zero]
              go_simp
              refine hHI.mono ?_; rintro e w9 ⟨rfl, rfl⟩
              refine hK _ _ (fun _ => hS) ?_
              clear hK K hHI
              try simp only [Act.put, List.getElem_toArray, List.getElem_cons_succ, List.getElem_cons_zero, List.setIfInBounds_toArray, List.set_cons_zero, List.set_cons_succ]
              refine AnyE.one (i := 12) (by kernel_rfl) rfl rfl ?_
              intro K hK
              simp only [List.getElem_toArray, List.getElem_cons_succ, List.getElem_cons_zero]
              go_simp
              refine hK _ _ (fun _ => hS) ?_
              clear hK K hS
              try simp only [Act.put, List.getElem_toArray, List.getElem_cons_succ, List.getElem_cons_zero, List.setIfInBounds_toArray, List.set_cons_zero, List.set_cons_succ]
              refine AnyE.done (by kernel_rfl) ?_ _
              have HPN2 := Lib.hid HPN.out
              cases bx with
              | true =>
                have hy : x ∈ P.getD t [] := of_decide_eq_true HBX.out
                have hT : toD P k r = (t : Int) := toD_some (by rw [HLV.out]; exact HL0.out) (by rw [HPX.out]; exact HX.out) (by rw [HPN.out]; exact HTN.out) HFt.out hy
                have HT := Lib.hid hT
                clear hy hT hws
                go_wp2_with fail
                go_meet
                exact ⟨by rw [HT.out], HBt.out⟩
              | false =>
                have hy : x ∉ P.getD t [] := of_decide_eq_false HBX.out
                have htk : t < k := Nat.lt_of_le_of_ne HTK.out fun h => hy (h ▸ HXP.out)
                have HF2 := Lib.hid (show ∀ j < t + 1, x ∉ P.getD j [] from fun j hj => by rcases Nat.lt_succ_iff_lt_or_eq.1 hj with h | h; exact HFt.out j h; exact h ▸ hy)
                have HTK2 := Lib.hid htk
                have ht40 : t ≤ 1001 := Nat.le_trans (Nat.le_of_lt HTN.out) (Nat.le_trans HN40.out (by decide))
                have HT40 := Lib.hid ht40
                clear hy htk hws ht40
                go_wp2_with fail
                go_roundw
                case rel => exact ⟨t + 1, HTK2.out, by rw [wrap64_up HT40.out], HBt.out, HF2.out⟩
                case measure => exact meas_up HTK2.out HT40.out
          case rest =>
          obtain ⟨hs11, hb11⟩ := hcut
          subst hs11
          obtain ⟨wy, hwy⟩ : ∃ wy, wy = wc := ⟨_, rfl⟩; subst hwy
          have HO10 := Lib.hid (own_blw HO9.out hb11); have HB10 := Lib.hid (HB9.out.trans (hb11.mono HB9.out.size))
          clear hb11 HO9 HB9
          have hll : ((List.range r).map (toD P k)).length = r := by simp
          have h63 : ((List.range r).map (toD P k)).length + 1 ≤ maxLen := by rw [hll]; exact Nat.le_trans (Nat.succ_le_succ (Nat.le_trans HRM.out hm1)) (by decide)
          have h64 : (((List.range r).map (toD P k)).length + 1) * 8 ≤ 140737488355328 := by rw [hll]; exact Nat.le_trans (Nat.mul_le_mul_right 8 (Nat.succ_le_succ (Nat.le_trans HRM.out hm1))) (by decide)
          have hsz := HB10.out.size
          have HO11 := Lib.hid (show wy.ownsRow wo.heap.size 3 1 v9 ((List.range r).map (toD P k)).length (((List.range r).map (toD P k)).map intN) by rw [hll]; exact HO10.out)
          clear hll HO10
          go_wp2_with (at_builtin; refine wpList_pushG rfl _ _ 39 rfl wo.heap.size 3 i0 (.int .i64 0) 8 Tryd.underlying39 hi hz0 hz1 hz2 rfl intN (fun _ => rfl) _ _ rfl HO11.out _ _ rfl h63 h64 hsz (toD P k r) rfl ?_; intro v' w7 hown' hgr; have HO7 := Lib.hid hown'; have HG7 := Lib.hid hgr; clear hown' hgr)
          go_roundw
          case rel =>
            have hbg := ((Below.refl wo.heap.size wy).alloc hsz (.cells #[.int .i64 (toD P k r)] 3)).grown HG7.out (Nat.le_trans hsz (by simp)) (fun k hk => (HO11.out.lt k hk).1)
            refine ⟨r + 1, v', Nat.le_succ_of_le HR1.out, Nat.succ_le_succ HRM.out, rfl, rfl, ?_, HB10.out.trans hbg⟩
            have h := HO7.out
            rw [show ((List.range r).map (toD P k)) ++ [toD P k r] = (List.range (r + 1)).map (toD P k) by rw [List.range_succ, List.map_append]; rfl, List.length_map, List.length_range] at h
            exact h
          case measure => have := HRM.out; simp only [intOf]; omega
        · obtain rfl : r = m + 1 := Nat.le_antisymm hr2 (Nat.lt_of_not_le hrm)
          have hrI : ¬ ((m + 1 : Nat) : Int) ≤ (m : Int) := fun h => hrm (Int.ofNat_le.1 h)
          clear hrm
          obtain ⟨wy, hwy⟩ : ∃ wy, wy = wr := ⟨_, rfl⟩; subst hwy
          replace HR := Lib.hid (HR.out.below HB9.out); replace HBr := Lib.hid (HBr.out.trans (HB9.out.mono HBr.out.size))
          have hsy := HBr.out.size
          have hRD : (List.range (m + 1)).map (toD P k) = rowD P k := by unfold rowD; rw [HPX.out, HMM.out]
          have HO10 := HO9.out
          rw [hRD] at HO10
          have hlr : (rowD P k).length = m + 1 := by rw [← hRD]; simp
          have HRT := Lib.hid (show IntsT wy v9 (rowD P k) from IntsT.of_own (B := wo.heap.size) (by rw [hlr]; exact HO10))
          obtain ⟨a9, c9, rfl⟩ := own_form HO10
          have hLk : LN.length = k := by have := congrArg List.length HM.out; simpa using this
          have h63 : LN.length + 1 ≤ maxLen := by rw [hLk]; exact Nat.le_trans (Nat.le_trans Hlt.out HN40.out) (by decide)
          have h64 : (LN.length + 1) * 24 ≤ 140737488355328 := by rw [hLk]; exact Nat.le_trans (Nat.mul_le_mul_right 24 (Nat.le_trans Hlt.out HN40.out)) (by decide)
          clear hLk HO10 hRD hlr HB9 HO9
          go_wp2_with (at_builtin; refine wpList_pushG rfl _ _ 28 rfl w2.heap.size 39 i1 (.slice none 0 0) 24 Tryd.underlying28 hj hy0 hy1 hy2 rfl rwC rwC_one _ LN rfl HR.out.1 _ _ rfl h63 h64 hsy (rowD P k, .slice a9 (m + 1) c9) rfl ?_; intro v' w7 hown' hgr; obtain ⟨av2, cv2, rfl⟩ := own_form hown'; have HO7 := Lib.hid hown'; have HG7 := Lib.hid hgr; clear hown' hgr)
          go_roundw
          case rel =>
            have hbg := ((Below.refl w2.heap.size wy).alloc hsy (.cells #[.slice a9 (m + 1) c9] 39)).grown HG7.out (Nat.le_trans hsy (by simp)) (fun k hk => (HR.out.1.lt k hk).1)
            refine ⟨k + 1, .slice av2 (LN.length + 1) cv2, LN ++ [(rowD P k, .slice a9 (m + 1) c9)], Hlt.out, by rw [wrap64_up (Nat.le_trans (Nat.le_of_lt Hlt.out) (Nat.le_trans HN40.out (by decide)))], rfl, ⟨?_, fun q hq => ?_⟩, ?_, HBr.out.trans hbg⟩
            · have h := HO7.out; rw [show (LN ++ [(rowD P k, Value.slice a9 (m + 1) c9)]).length = LN.length + 1 from List.length_append] at h ⊢; exact h
            · rcases List.mem_append.1 hq with hq | hq
              · exact (HR.out.2 q hq).keep hbg.size fun g cs fz hg => grown_row HR.out.1 HG7.out hg (by decide)
              · obtain rfl := List.mem_singleton.1 hq
                exact HRT.out.keep hbg.size fun g cs fz hg => grown_row HR.out.1 HG7.out hg (by decide)
            · show List.map Prod.fst _ = List.map _ _
              rw [List.map_append, HM.out, List.range_succ, List.map_append]; rfl
          case measure => exact meas_up Hlt.out (Nat.le_trans (Nat.le_of_lt Hlt.out) (Nat.le_trans HN40.out (by decide)))
    · obtain rfl : k = n5 := Nat.le_antisymm hk (Nat.le_of_not_lt hlt)
      go_wp2_with fail
      go_ret
      exact ⟨v4, LN, rfl, ⟨own_baseN HR.out.1 HB.out.size, HR.out.2⟩, by rw [hP, HPN.out]; exact HM.out, HB.out.trans (HBr.out.mono HB.out.size)⟩
end Go.Proofs.YtfmdahfolnljkaaDoor
