/- The walk of auto.Build. -/
import Derived.Test.YtfmdahfolnljkaaDoorTa1
import Derived.Test.YtfmdahfolnljkaaDoorTw5
import Derived.Deep.DeepCutAuto
namespace Go.Proofs.YtfmdahfolnljkaaDoor
set_option linter.unusedVariables false
set_option linter.unusedSimpArgs false
open Go Go.RowKit Go.ChangeShapes

theorem ls_small : (∀ n, ∀ p : List Int, ∀ q ∈ lsN n p, q.length ≤ p.length + hgt n) ∧ ∀ l, ∀ p : List Int, ∀ q ∈ lsL l p, q.length ≤ p.length + hgtL l := by
  refine tree2 (fun n h p q hq => ?_) (fun p q hq => by simp [lsL] at hq) (fun x r h1 h2 p q hq => ?_)
  · rw [lsN_eq] at hq
    rw [hgt_eq]
    have hl : (if n.rep = 3 then p ++ [n.id] else p).length ≤ p.length + 1 := by split <;> simp
    split at hq
    · have := h _ q hq; omega
    · obtain rfl := List.mem_singleton.1 hq; omega
  · simp only [lsL, hgtL] at hq ⊢
    rcases List.mem_append.1 hq with hq | hq
    · have := h1 p q hq; omega
    · have := h2 p q hq; omega
def leastB (P : List (List Int)) (k : Nat) : Nat := if k + 1 < P.length then commonN (P.getD k []) (P.getD (k + 1) []) else 0
def frst (P : List (List Int)) (k r : Nat) : Option Nat := (List.range (k + 1)).find? fun f => decide (r ≤ commonN (P.getD f []) (P.getD k []))
def toB (P : List (List Int)) (k r : Nat) : Int := if leastB P k < r then (((frst P k r).getD (k + 1) : Nat) : Int) else (k : Int) + 1
def rowB (P : List (List Int)) (k : Nat) : List Int := (List.range ((P.getD k []).length + 1)).map (toB P k)
theorem toB_none {P : List (List Int)} {k r f : Nat} (hf : ∀ j < f, ¬ r ≤ commonN (P.getD j []) (P.getD k [])) (h : leastB P k < r → k < f) : toB P k r = (k : Int) + 1 := by
  unfold toB
  split
  · rename_i hl
    have hf1 := h hl
    have : frst P k r = none := by
      unfold frst
      rw [List.find?_eq_none]
      intro x hx
      have := List.mem_range.1 hx
      simpa using hf x (by omega)
    rw [this]; simp
  · rfl
theorem toB_some {P : List (List Int)} {k r f : Nat} (hl : leastB P k < r) (hk : f ≤ k) (hf : ∀ j < f, ¬ r ≤ commonN (P.getD j []) (P.getD k [])) (hy : r ≤ commonN (P.getD f []) (P.getD k [])) : toB P k r = (f : Int) := by
  unfold toB
  rw [if_pos hl]
  have : frst P k r = some f := by
    unfold frst
    rw [List.find?_range_eq_some]
    exact ⟨by simpa using hy, by simp; omega, fun j hj => by simpa using hf j hj⟩
  rw [this]; rfl
theorem wrap64_len {a m : Nat} (h : a + 1 = m) (ha : a ≤ 1000) : wrap64 ((a : Int) + 1) = (m : Int) := by subst h; unfold wrap64; omega
theorem wrap64_up {a : Nat} (h : a ≤ 1001) : wrap64 ((a : Int) + 1) = ((a + 1 : Nat) : Int) := by unfold wrap64; omega
theorem meas_up {n k : Nat} (hk : k < n) (h : k ≤ 1001) : n - (intOf (.int .i64 (wrap64 ((k : Int) + 1)))).toNat < n - (intOf (.int .i64 (k : Int))).toNat := by
  rw [wrap64_up h]
  show n - (((k + 1 : Nat) : Int)).toNat < n - ((k : Nat) : Int).toNat
  rw [Int.toNat_natCast, Int.toNat_natCast]; omega
/-- a row under way -/
def rowU (P : List (List Int)) (k m r : Nat) : List Int := (List.range r).map (toB P k) ++ List.replicate (m - r) 0
theorem rowU_len {P : List (List Int)} {k m r : Nat} (h : r ≤ m) : (rowU P k m r).length = m := by simp [rowU]; omega
theorem rowU_set {P : List (List Int)} {k m r : Nat} (h : r < m) : (rowU P k m r).set r (toB P k r) = rowU P k m (r + 1) := by
  unfold rowU
  rw [show m - r = (m - (r + 1)) + 1 by omega, List.replicate_succ, List.set_append_right _ _ (by simp), List.range_succ, List.map_append]
  simp
theorem rowU_all {P : List (List Int)} {k m : Nat} : rowU P k m m = (List.range m).map (toB P k) := by simp [rowU]

theorem RowsAt.set {B b q : Nat} {w : World} {v : Value} {LR : List (List Int × Value)} {cs : Array Value} (h : RowsAt B w v LR) (hb : w.heap[b]? = some (.cells cs 30 (0, 0))) (y : Value) : RowsAt B (w.setCell ⟨b, q, none⟩ y) v LR := by
  refine ⟨own_setB h.1 hb (by decide) y, fun p hp => (h.2 p hp).keep (by simp) fun g cs' fz hg => ?_⟩
  rw [Below.heap_setCell _ _ _ _ (by
    rintro rfl
    have h1 := Option.some.inj (hb.symm.trans hg)
    injection h1 with _ h2 _
    exact absurd h2 (by decide))]
  exact hg
theorem rows_get {B g n c : Nat} {w : World} {LR : List (List Int × Value)} {P : List (List Int)} (h : RowsAt B w (.slice (some ⟨g, 0, none⟩) n c) LR) (hP : LR.map Prod.fst = P) (hs : ∀ q ∈ P, q.length ≤ 1000) (hn : LR.length = n) (j : Nat) (hj : j < n) :
    ∃ a c', w.cell? ⟨g, j, none⟩ = some (.slice a (P.getD j []).length c') ∧ IntsT w (.slice a (P.getD j []).length c') (P.getD j []) ∧ (P.getD j []).length ≤ 1000 := by
  subst hn
  have hd : P.getD j [] = LR[j].1 := by rw [← hP, List.getD_eq_getElem?_getD, List.getElem?_map, List.getElem?_eq_getElem hj]; rfl
  have hi := h.2 _ (List.getElem_mem hj)
  obtain ⟨a, c', hv⟩ := hi.1.form
  rw [← hd] at hv hi
  rw [hv] at hi
  refine ⟨a, c', ?_, hi, ?_⟩
  · rw [h.1.cellAt j (by rw [Nat.mul_one]; exact hj), List.getElem?_map, List.getElem?_eq_getElem hj]
    show some (rwC LR[j]) = _
    rw [rwC, hv]; rfl
  · rw [hd]; exact hs _ (by rw [← hP]; exact List.mem_map.2 ⟨_, List.getElem_mem hj, rfl⟩)
theorem row_done {P : List (List Int)} {k m r : Nat} {x : Int} (h : toB P k r = x) (hr : r < m) : ((rowU P k m r).map intN).set r (.int .i64 x) = (rowU P k m (r + 1)).map intN := by
  rw [← rowU_set hr, List.map_set, h]; rfl
/-- what a right tree is -/
theorem valid_facts {n : Nd} (h : validE n = 0) : goodB n = true ∧ rootOk n = true ∧ (nodesL n.sub).all okShape = true ∧ (runG idsG (nodesL n.sub) []).1 = true := by
  unfold validE at h
  repeat' split at h
  all_goals first | exact ⟨by assumption, by assumption, by assumption, by assumption⟩ | omega
def BuildRet (n : Nd) (adr : Nat → Addr) (w : World) (e : Ending) (w' : World) : Prop := ∃ v LN, e = .returned (.tuple #[.agg #[v], eV adr (validE n)]) ∧ RowsAt w.heap.size w' v LN ∧ LN.map Prod.fst = (if validE n = 0 then (List.range (lsL n.sub []).length).map (rowB (lsL n.sub [])) else []) ∧ Below w.heap.size w w'

set_option maxRecDepth 100000 in
set_option maxHeartbeats 16000000 in
theorem build_any (n : Nd) (u : Value) (w : World) (adr : Nat → Addr) (hE : ErrsAt w adr [2, 3, 5]) (hN : IsNds (· < w.heap.size) w u n.sub) (hO : ∀ x ∈ nodes n, x.Ok1) :
    Calls Tryd.prog 8 #[.agg (ndA n u)] w (BuildRet n adr w) := by
  obtain ⟨ad, cp, rfl⟩ := hN.form
  obtain ⟨len, hnl⟩ : ∃ len, n.sub.length = len := ⟨_, rfl⟩
  rw [hnl] at hN ⊢
  have hw1 : Below w.heap.size w ((w.alloc (.cells #[.int .i64 n.id, .string n.name, .int .i64 n.rep, .int .i64 n.kind, .slice ad len cp] 24)).alloc (.cells #[.slice none 0 0] 30)) := ((Below.refl _ _).alloc (Nat.le_refl _) _).alloc (by simp) _
  have hr0 := heap_alloc_new w (.cells #[.int .i64 n.id, .string n.name, .int .i64 n.rep, .int .i64 n.kind, .slice ad len cp] 24)
  have hr2 := heap_alloc_new (w.alloc (.cells #[.int .i64 n.id, .string n.name, .int .i64 n.rep, .int .i64 n.kind, .slice ad len cp] 24)) (.cells #[.slice none 0 0] 30)
  have hzb : (w.alloc (.cells #[.int .i64 n.id, .string n.name, .int .i64 n.rep, .int .i64 n.kind, .slice ad len cp] 24)).heap.size = w.heap.size + 1 := by simp
  rw [hzb] at hr2
  have hr1 := (Below.heap_alloc (w.alloc (.cells #[.int .i64 n.id, .string n.name, .int .i64 n.rep, .int .i64 n.kind, .slice ad len cp] 24)) (.cells #[.slice none 0 0] 30) w.heap.size (row_lt hr0)).trans hr0
  have hzl := row_lt hr2
  have HB := Lib.hid hw1; have RN := Lib.hid hr1; have RM := Lib.hid hr2; have HZ1 := Lib.hid hzl
  clear hw1 hr1 hr2 hr0 hzb hzl
  obtain ⟨i0, hi, hz0, hz1, hz2⟩ := info_parts info_intN
  obtain ⟨i1, hj, hy0, hy1, hy2⟩ := info_parts rw_info
  unfold ndA
  go_enter Tryd.func8, Tryd.ntmps8
  go_upto_region 1 with fail
  generalize ((w.alloc (.cells #[.int .i64 n.id, .string n.name, .int .i64 n.rep, .int .i64 n.kind, .slice ad len cp] 24)).alloc (.cells #[.slice none 0 0] 30)) = w1 at *
  have HV := Lib.hid (valid_any n (.slice ad len cp) w1 adr (hE.below HB.out) ((hN.under HB.out).mono fun b hb _ => Nat.lt_of_lt_of_le hb HB.out.size) hO)
  unfold ndA at HV
  have cN := rowc RN.out
  go_wp2_with fail
  refine HV.out.mono ?_; rintro e w2 ⟨rfl, hb2⟩
  replace RN := Lib.hid (row_keep hb2 RN.out); replace RM := Lib.hid (row_keep hb2 RM.out); replace HB := Lib.hid (HB.out.trans (hb2.mono HB.out.size))
  have hsz2 := hb2.size
  clear hb2 HV cN
  obtain ⟨ve, hve⟩ : ∃ ve, validE n = ve := ⟨_, rfl⟩
  rw [hve]
  by_cases h0 : ve = 0
  case neg =>
    obtain ⟨ke, rfl⟩ : ∃ ke, ve = ke + 1 := ⟨ve - 1, by omega⟩
    have cM := rowc RM.out; have fM := rowf RM.out
    unfold eV
    go_wp2_with fail
    refine bodyPost_ret (v := .tuple #[.agg #[.slice none 0 0], eV adr (ke + 1)]) (results_row_tmp Tryd.results8 _ _ (w.heap.size + 1) 30 _ (0, 0) _ rfl (heap_setCell_same _ _ _ _ _ _ RM.out) Tryd.underlying30 rfl (by kernel_rfl)) rfl ⟨_, [], by rw [hve], ⟨World.ownsRow_nil _ _ _ _, fun q hq => by simp at hq⟩, by rw [hve]; rfl, HB.out.setCell (by simp) _⟩
  subst h0
  obtain ⟨hs, hh⟩ : size n ≤ 1000 ∧ hgt n ≤ 1000 := by
    have hg := (valid_facts hve).1
    unfold goodB at hg
    rw [decide_eq_true_iff] at hg
    omega
  have HW := Lib.hid (lists_any n (.slice ad len cp) (.slice none 0 0) [] w2 ((hN.under HB.out).mono fun b hb _ => Nat.lt_of_lt_of_le hb HB.out.size) hO (IntsT.nil w2) (by simpa using hh) hs)
  unfold ndA at HW
  have cN := rowc RN.out
  unfold eV
  go_wp2_with fail
  refine HW.out.mono ?_; rintro e w3 ⟨v5, LR, rfl, hLR, hM5, hb3⟩
  replace RN := Lib.hid (row_keep hb3 RN.out); replace RM := Lib.hid (row_keep hb3 RM.out); replace HB := Lib.hid (HB.out.trans (hb3.mono HB.out.size))
  have hz3 := hb3.size
  clear hb3 HW cN
  obtain ⟨a5, c5, rfl⟩ := own_form hLR.1
  obtain ⟨n5, hn5⟩ : ∃ n5, LR.length = n5 := ⟨_, rfl⟩
  obtain ⟨P, hP⟩ : ∃ P, lsL n.sub [] = P := ⟨_, rfl⟩
  rw [hP] at hM5
  have HPS := Lib.hid (show ∀ q ∈ P, q.length ≤ 1000 from fun q hq => by have := ls_small.2 n.sub [] q (hP ▸ hq); rw [hgt_eq] at hh; simp at this; omega)
  have HLR := Lib.hid hLR; have HM5 := Lib.hid hM5
  rw [hn5]
  have HN5 := Lib.hid hn5
  clear hn5 hLR hM5
  have hfa := heap_alloc_new w3 (.cells #[.slice none 0 0] 30)
  have hba := (Below.refl w3.heap.size w3).alloc (Nat.le_refl _) (.cells #[.slice none 0 0] 30)
  have HFA := Lib.hid hfa; have HBA := Lib.hid hba
  clear hfa hba
  go_wp2_with fail
  go_loopw [23] (fun i wr => ∃ (k : Nat) (vN : Value) (LN : List (List Int × Value)), k ≤ n5 ∧ i = .int .i64 (k : Nat) ∧ wr.heap[w3.heap.size]? = some (.cells #[vN] 30 (0, 0)) ∧ Hid (RowsAt (w3.heap.size + 1) wr vN LN) ∧ Hid (LN.map Prod.fst = (List.range k).map (rowB (P))) ∧ Hid (Below w3.heap.size w3 wr)) (fun i _ => n5 - (intOf i).toNat)
  case atStart => exact ⟨0, _, [], Nat.zero_le _, rfl, HFA.out, ⟨World.ownsRow_nil _ _ _ _, fun q hq => by simp at hq⟩, rfl, HBA.out⟩
  case round =>
    obtain ⟨k, vN, LN, hk, rfl, hM, HR, HM, HBr⟩ := hrel
    have RMa := Lib.hid hM
    clear hM HFA HBA
    have hsz : w3.heap.size + 1 ≤ wr.heap.size := row_lt RMa.out
    by_cases hlt : k < n5
    · have hkl : k < LR.length := by rw [HN5.out]; exact hlt
      have hLRr := HLR.out.below HBr.out
      have hg5 : ∃ g5, a5 = some ⟨g5, 0, none⟩ := by
        rcases hLRr.1.2 with ⟨h1, h0⟩ | ⟨g, cap, cur, h1, _⟩
        · omega
        · injection h1 with h1; exact ⟨g, h1⟩
      obtain ⟨g5, rfl⟩ := hg5
      have hat : ∀ j (hj : j < LR.length), wr.cell? ⟨g5, j, none⟩ = some LR[j].2 ∧ IntsT wr LR[j].2 LR[j].1 ∧ (P).getD j [] = LR[j].1 := fun j hj => by
        refine ⟨?_, hLRr.2 _ (List.getElem_mem hj), ?_⟩
        · obtain ⟨a, c, h⟩ := (hLRr.2 _ (List.getElem_mem hj)).1.form
          rw [hLRr.1.cellAt j (by omega), List.getElem?_map, List.getElem?_eq_getElem hj]
          show some (rwC LR[j]) = some LR[j].2
          rw [rwC, h]; rfl
        · rw [← HM5.out, List.getD_eq_getElem?_getD, List.getElem?_map, List.getElem?_eq_getElem hj]; rfl
      obtain ⟨hc1, hi1, hd1⟩ := hat k hkl
      have hn1 : n5 ≤ 1000 := by
        have h1 := lsL_len.2 n.sub []
        rw [hP, ← HM5.out, List.length_map, HN5.out] at h1
        rw [size_eq] at hs; omega
      obtain ⟨k1, hk1⟩ : ∃ k1, k + 1 = k1 := ⟨_, rfl⟩
      have hwk : wrap64 ((k : Int) + 1) = (k1 : Int) := by subst hk1; unfold wrap64; omega
      have HK1 := Lib.hid hk1; have HN1 := Lib.hid hn1
      clear hk1 hn1
      have hnx := fun hj : k1 < n5 => hat k1 (by rw [HN5.out]; exact hj)
      have hpl : (P.getD k []).length ≤ 1000 := by
        rw [hd1]; exact HPS.out _ (by rw [← HM5.out]; exact List.mem_map.2 ⟨_, List.getElem_mem hkl, rfl⟩)
      have hPL : P.length = n5 := by rw [← HM5.out, List.length_map]; exact HN5.out
      have HPL := Lib.hid hPL
      rw [← hd1] at hi1
      obtain ⟨px, hpx⟩ : ∃ px, P.getD k [] = px := ⟨_, rfl⟩
      rw [hpx] at hi1 hpl
      have HPX := Lib.hid hpx
      obtain ⟨vx, hvx⟩ : ∃ vx, LR[k].2 = vx := ⟨_, rfl⟩
      rw [hvx] at hi1 hc1
      obtain ⟨ax, cx, rfl⟩ := hi1.1.form
      have HIX := Lib.hid hi1; have HLX := Lib.hid hpl; have HAT := Lib.hid hat; have HNX := Lib.hid hnx; have Hlt := Lib.hid hlt
      have hin : (k : Int) < (n5 : Int) := by omega
      clear hd1 hi1 hpl hPL hpx hvx hnx hat hkl hLRr
      go_upto_if 32 with fail
      go_cut [9] (fun s9 wx => s9 = .int .i64 (leastB P k : Nat) ∧ Below wr.heap.size wr wx)
      case first =>
        by_cases h1 : k1 < n5
        · obtain ⟨hc2, hi2, hd2⟩ := HNX.out h1
          rw [← hd2] at hi2
          have hl2 : (P.getD k1 []).length ≤ 1000 := by
            rw [hd2]; exact HPS.out _ (by rw [← HM5.out]; exact List.mem_map.2 ⟨_, List.getElem_mem _, rfl⟩)
          obtain ⟨p2, hp2⟩ : ∃ p2, P.getD k1 [] = p2 := ⟨_, rfl⟩
          have hlb : leastB P k = commonN px (P.getD k1 []) := by unfold leastB; rw [HK1.out, if_pos (by rw [HPL.out]; exact h1), HPX.out]
          rw [hp2] at hi2 hl2 hlb
          have HLB := Lib.hid hlb
          clear hd2 hp2 hlb
          obtain ⟨v2, hv2⟩ : ∃ v2, (LR[k1]'(by rw [HN5.out]; exact h1)).2 = v2 := ⟨_, rfl⟩
          rw [hv2] at hc2 hi2
          obtain ⟨a2, c2, rfl⟩ := hi2.1.form
          have HCM := Lib.hid (common_any _ _ px p2 wr HIX.out.1 hi2.1 (by have := HLX.out; omega) (by omega))
          have h1' : (k1 : Int) < (n5 : Int) := by omega
          clear hi2 hl2 hv2
          go_wp2_with fail
          refine HCM.out.mono ?_; rintro e w4 ⟨rfl, hb4⟩
          go_wp2_with fail
          go_meet
          exact ⟨by rw [HLB.out], hb4⟩
        · have hlb : leastB P k = 0 := by unfold leastB; rw [HK1.out, if_neg (by rw [HPL.out]; exact h1)]
          have h1' : ¬ (k1 : Int) < (n5 : Int) := by omega
          have HLB := Lib.hid hlb
          clear hlb
          go_wp2_with fail
          go_meet
          exact ⟨by rw [HLB.out]; rfl, Below.refl _ _⟩
      case rest =>
      obtain ⟨hs9, hb9⟩ := hcut
      subst hs9
      replace RMa := Lib.hid ((hb9.block _ (by omega)).trans RMa.out); replace HR := Lib.hid (HR.out.below hb9); replace HBr := Lib.hid (HBr.out.trans (hb9.mono HBr.out.size)); replace HIX := Lib.hid (HIX.out.below hb9)
      replace hsz := Nat.le_trans hsz hb9.size
      obtain ⟨wo, hwo⟩ : ∃ wo, wo = wc := ⟨_, rfl⟩; subst hwo
      clear hb9 HAT HNX
      obtain ⟨lv, hlv⟩ : ∃ lv, leastB P k = lv := ⟨_, rfl⟩
      rw [hlv]
      have HLV := Lib.hid hlv
      clear hlv hc1
      obtain ⟨m, hm⟩ : ∃ m, px.length + 1 = m := ⟨_, rfl⟩
      have hm1 : m ≤ 1001 := hm ▸ Nat.succ_le_succ HLX.out
      have hwm : wrap64 ((px.length : Int) + 1) = (m : Int) := wrap64_len hm HLX.out
      have HM0 := Lib.hid hm
      clear hm
      have hbm : 8 * m ≤ 281474976710656 := Nat.le_trans (Nat.mul_le_mul_left 8 hm1) (by decide)
      have hmx : m ≤ maxLen := Nat.le_trans hm1 (by decide)
      go_wp2_with (at_make; refine wpList_make_full _ rfl _ _ 39 rfl wo.heap.size 3 i0 (.int .i64 0) 1 Tryd.underlying39 hi hz0 hz1 _ _ _ _ m rfl rfl hwm hwm (by rw [hz2]; exact hbm) hmx (Nat.le_refl _) ?_; intro w4 hown hgrow; have Ho := Lib.hid hown; have hb := (Below.refl wo.heap.size wo).grown hgrow (Nat.le_refl _) (by intro k hk; cases hk); have Hb := Lib.hid hb; clear hown hgrow hb)
      obtain ⟨b, hb0⟩ : ∃ b, wo.heap.size = b := ⟨_, rfl⟩
      rw [hb0] at Ho Hb hsz ⊢
      have hrow : w4.ownsRow b 3 1 (.slice (some ⟨b, 0, none⟩) m m) m ((rowU P k m 0).map intN) := by
        have := Ho.out
        rw [show (Value.int .i64 0).cells = #[Value.int .i64 0] from rfl, toList_madeCells_one, Nat.mul_one] at this
        simpa [rowU, intN] using this
      have HRW := Lib.hid hrow
      clear hrow Ho hwm hbm hmx
      go_loopw [46] (fun i wr => ∃ r : Nat, r ≤ m ∧ i = .int .i64 (r : Nat) ∧ Hid (wr.ownsRow b 3 1 (.slice (some ⟨b, 0, none⟩) m m) m ((rowU P k m r).map intN)) ∧ Hid (Below b wo wr)) (fun i _ => m - (intOf i).toNat)
      case atStart => exact ⟨0, Nat.zero_le _, rfl, HRW.out, Hb.out⟩
      case round =>
        obtain ⟨r, hr, rfl, HO, HBo⟩ := hrel
        clear HRW Hb
        by_cases hrm : r < m
        · have hcell := HO.out.cellAt r (by rw [Nat.mul_one]; exact hrm)
          have hlen : r < ((rowU P k m r).map intN).length := by rw [List.length_map, rowU_len hr]; exact hrm
          rw [List.getElem?_eq_getElem hlen] at hcell
          have hfroz := HO.out.frozenAt r
          have hst := (HO.out.stored r (Value.int .i64 (k1 : Int))).1
          have HST := Lib.hid hst
          generalize ((rowU P k m r).map intN)[r] = oldv at hcell
          have Hrm := Lib.hid hrm
          have hrmi : (r : Int) < (m : Int) := Int.ofNat_lt.2 hrm
          clear hlen hst
          go_upto_region 17 with fail
          clear hwk
          have hb5 := HBo.out.setCell (p := ⟨b, r, none⟩) (Nat.le_refl _) (Value.int .i64 (k1 : Int))
          have HB5 := Lib.hid hb5
          generalize wr.setCell ⟨b, r, none⟩ (Value.int .i64 (k1 : Int)) = w5 at *
          clear hb5 hcell hfroz HO HBo
          go_wp2_with fail
          go_loopw [12] (fun i wx => ∃ f : Nat, f ≤ k1 ∧ i = .int .i64 (f : Nat) ∧ Hid (wx.ownsRow b 3 1 (.slice (some ⟨b, 0, none⟩) m m) m (((rowU P k m r).map intN).set r (.int .i64 (k1 : Int)))) ∧ Hid (Below b wo wx) ∧ Hid (∀ j < f, ¬ r ≤ commonN (P.getD j []) (P.getD k []))) (fun i _ => k1 - (intOf i).toNat)
          case atStart => exact ⟨0, Nat.zero_le _, rfl, HST.out, HB5.out, fun j hj => by omega⟩
          case round =>
            obtain ⟨f, hf, rfl, HOx, HBx, HF⟩ := hrel
            clear HST HB5
            have Hf := Lib.hid hf
            clear hf
            obtain ⟨wx, hwx⟩ : ∃ wx, wx = wr := ⟨_, rfl⟩; subst hwx
            have hbxo : Below wo.heap.size wo wx := by rw [hb0]; exact HBx.out
            have HBW := Lib.hid hbxo
            clear hbxo
            by_cases hl : lv < r
            case neg =>
              have hlI : ¬ (lv : Int) < (r : Int) := fun h => hl (Int.ofNat_lt.1 h)
              have hT : toB P k r = (k1 : Int) := by rw [toB_none HF.out (fun h => absurd h (by rw [HLV.out]; exact hl)), ← HK1.out]; rfl
              have HT := Lib.hid hT
              clear hl hT
              go_wp2_with fail
              go_roundw
              case rel => exact ⟨r + 1, Hrm.out, by go_num, by have := HOx.out; rw [row_done HT.out Hrm.out] at this; exact this, HBx.out⟩
              case measure => have := Hrm.out; simp [intOf]; omega
            have hlI : (lv : Int) < (r : Int) := Int.ofNat_lt.2 hl
            have HL0 := Lib.hid hl
            clear hl
            by_cases hfk : f ≤ k
            case neg =>
              have hfI : ¬ (f : Int) ≤ (k : Int) := fun h => hfk (Int.ofNat_le.1 h)
              have hT : toB P k r = (k1 : Int) := by rw [toB_none HF.out (fun h => Nat.lt_of_not_le hfk), ← HK1.out]; rfl
              have HT := Lib.hid hT
              clear hfk hT
              go_wp2_with fail
              go_roundw
              case rel => exact ⟨r + 1, Hrm.out, by go_num, by have := HOx.out; rw [row_done HT.out Hrm.out] at this; exact this, HBx.out⟩
              case measure => have := Hrm.out; simp [intOf]; omega
            have hfI : (f : Int) ≤ (k : Int) := Int.ofNat_le.2 hfk
            have Hfk := Lib.hid hfk
            have hfn : f < n5 := Nat.lt_of_le_of_lt hfk Hlt.out
            have hfnI : (f : Int) < (n5 : Int) := Int.ofNat_lt.2 hfn
            obtain ⟨af, cf, hcf, hif, hlf⟩ := rows_get (HLR.out.below (HBr.out.trans (HBW.out.mono HBr.out.size))) HM5.out HPS.out rfl f (by rw [HN5.out]; exact hfn)
            obtain ⟨pf, hpf⟩ : ∃ pf, P.getD f [] = pf := ⟨_, rfl⟩
            rw [hpf] at hcf hif hlf
            have HPF := Lib.hid hpf
            have HCM := Lib.hid (common_any _ _ pf px wx hif.1 (HIX.out.below HBW.out).1 (Nat.le_trans hlf (by decide)) (Nat.le_trans HLX.out (by decide)))
            clear hfk hfn hif hlf hpf
            go_wp2_with fail
            refine HCM.out.mono ?_; rintro e w6 ⟨rfl, hb6⟩
            have HB6 := Lib.hid (HBx.out.trans (hb6.mono (show b ≤ wx.heap.size by rw [← hb0]; exact HBW.out.size)))
            have HO6 := Lib.hid (own_blw HOx.out hb6)
            clear hb6 HCM hcf
            by_cases hy : r ≤ commonN pf px
            · have hT : toB P k r = (f : Int) := toB_some (by rw [HLV.out]; exact HL0.out) Hfk.out HF.out (by rw [HPF.out, HPX.out]; exact hy)
              have HT := Lib.hid hT
              have hyI : (r : Int) ≤ ((commonN pf px : Nat) : Int) := Int.ofNat_le.2 hy
              have hcell := HO6.out.cellAt r (by rw [Nat.mul_one]; exact Hrm.out)
              have hlen : r < (((rowU P k m r).map intN).set r (.int .i64 (k1 : Int))).length := by rw [List.length_set, List.length_map, rowU_len (Nat.le_of_lt Hrm.out)]; exact Hrm.out
              rw [List.getElem?_eq_getElem hlen] at hcell
              have hfroz := HO6.out.frozenAt r
              have HST := Lib.hid ((HO6.out.stored r (Value.int .i64 (f : Int))).1)
              generalize (((rowU P k m r).map intN).set r (.int .i64 (k1 : Int)))[r] = oldv at hcell
              clear hT hy hlen
              go_wp2_with fail
              go_roundw
              case rel => exact ⟨r + 1, Hrm.out, by go_num, by have := HST.out; rw [List.set_set, row_done HT.out Hrm.out] at this; exact this, HB6.out.setCell (Nat.le_refl _) _⟩
              case measure => have := Hrm.out; simp [intOf]; omega
            · have HY := Lib.hid hy
              have hyI : ¬ (r : Int) ≤ ((commonN pf px : Nat) : Int) := fun h => hy (Int.ofNat_le.1 h)
              clear hy
              go_wp2_with fail
              go_roundw
              case rel => exact ⟨f + 1, HK1.out ▸ Nat.succ_le_succ Hfk.out, by rw [wrap64_up (Nat.le_trans Hfk.out (Nat.le_trans (Nat.le_of_lt Hlt.out) (Nat.le_trans HN1.out (by decide))))], HO6.out, HB6.out, fun j hj => by
                rcases Nat.lt_or_ge j f with h | h
                · exact HF.out j h
                · rw [show j = f by omega, HPF.out, HPX.out]; exact HY.out⟩
              case measure => exact meas_up (HK1.out ▸ Nat.lt_succ_of_le Hfk.out) (Nat.le_trans Hfk.out (Nat.le_trans (Nat.le_of_lt Hlt.out) (Nat.le_trans HN1.out (by decide))))
        · obtain rfl : r = m := Nat.le_antisymm hr (Nat.le_of_not_lt hrm)
          clear hwk hrm
          obtain ⟨wy, hwy⟩ : ∃ wy, wy = wr := ⟨_, rfl⟩; subst hwy
          have hby : Below wo.heap.size wo wy := by rw [hb0]; exact HBo.out
          replace RMa := Lib.hid (row_keep hby RMa.out); replace HR := Lib.hid (HR.out.below hby); replace HBr := Lib.hid (HBr.out.trans (hby.mono HBr.out.size))
          have hsy : w3.heap.size + 1 ≤ wy.heap.size := row_lt RMa.out
          clear hby HBo
          have cM := rowc RMa.out; have fM := rowf RMa.out
          have HRT := Lib.hid (show IntsT wy (.slice (some ⟨b, 0, none⟩) r r) (rowU P k r r) from IntsT.of_own (B := b) (by rw [rowU_len (Nat.le_refl _)]; exact HO.out))
          have hLk : LN.length = k := by have := congrArg List.length HM.out; simpa using this
          have h63 : LN.length + 1 ≤ maxLen := by rw [hLk]; exact Nat.le_trans (Nat.le_trans Hlt.out HN1.out) (by decide)
          have h64 : (LN.length + 1) * 24 ≤ 140737488355328 := by rw [hLk]; exact Nat.le_trans (Nat.mul_le_mul_right 24 (Nat.le_trans Hlt.out HN1.out)) (by decide)
          obtain ⟨aN, cN2, rfl⟩ := own_form HR.out.1
          clear hLk
          go_wp2_with (at_builtin; refine wpList_pushG rfl _ _ 28 rfl (w3.heap.size + 1) 39 i1 (.slice none 0 0) 24 Tryd.underlying28 hj hy0 hy1 hy2 rfl rwC rwC_one _ LN rfl HR.out.1 _ _ rfl h63 h64 hsy (rowU P k r r, .slice (some ⟨b, 0, none⟩) r r) rfl ?_; intro v' w7 hown' hgr; obtain ⟨av2, cv2, rfl⟩ := own_form hown'; have HO7 := Lib.hid hown'; have HG7 := Lib.hid hgr; have rM7 := grown_row HR.out.1 hgr RMa.out (by decide); have RM7 := Lib.hid rM7; clear cM fM; have cM := rowc rM7; have fM := rowf rM7; clear hown' hgr rM7)
          go_roundw
          case rel =>
            have hbg := ((Below.refl w3.heap.size wy).alloc (Nat.le_of_succ_le hsy) (.cells #[.slice (some ⟨b, 0, none⟩) r r] 39)).grown HG7.out (Nat.le_trans (Nat.le_of_succ_le hsy) (by simp)) (fun k hk => Nat.le_of_succ_le (HR.out.1.lt k hk).1)
            refine ⟨k + 1, .slice av2 (LN.length + 1) cv2, LN ++ [(rowU P k r r, .slice (some ⟨b, 0, none⟩) r r)], Hlt.out, by rw [wrap64_up (Nat.le_trans (Nat.le_of_lt Hlt.out) (Nat.le_trans HN1.out (by decide)))], by rw [heap_setCell_same _ _ _ _ _ _ RM7.out]; rfl, RowsAt.set ⟨?_, fun q hq => ?_⟩ RM7.out _, ?_, (HBr.out.trans hbg).setCell (Nat.le_refl _) _⟩
            · have h := HO7.out; rw [show (LN ++ [(rowU P k r r, Value.slice (some ⟨b, 0, none⟩) r r)]).length = LN.length + 1 from List.length_append] at h ⊢; exact h
            · rcases List.mem_append.1 hq with hq | hq
              · exact (HR.out.2 q hq).keep hbg.size fun g cs fz hg => grown_row HR.out.1 HG7.out hg (by decide)
              · obtain rfl := List.mem_singleton.1 hq
                exact HRT.out.keep hbg.size fun g cs fz hg => grown_row HR.out.1 HG7.out hg (by decide)
            · show List.map Prod.fst _ = List.map _ _
              rw [List.map_append, HM.out, List.range_succ, List.map_append, rowU_all]
              show _ ++ [_] = _ ++ [rowB P k]
              rw [rowB, HPX.out, HM0.out]
          case measure => exact meas_up Hlt.out (Nat.le_trans (Nat.le_of_lt Hlt.out) (Nat.le_trans HN1.out (by decide)))
    · obtain rfl : k = n5 := by omega
      have cM := rowc RMa.out
      have rM := (HBr.out.block (w.heap.size + 1) (by have := HZ1.out; have := HB.out.size; omega)).trans RM.out
      have c2 := rowc rM; have f2 := rowf rM
      obtain ⟨aN, cN2, rfl⟩ := own_form HR.out.1
      go_wp2_with fail
      have hz := HB.out.size
      have h9 : LR.length = P.length := by rw [← HM5.out, List.length_map]
      refine bodyPost_ret (v := .tuple #[.agg #[.slice aN LN.length cN2], .nilIface]) (results_row_tmp Tryd.results8 _ _ (w.heap.size + 1) 30 _ (0, 0) _ rfl (heap_setCell_same _ _ _ _ _ _ rM) Tryd.underlying30 rfl (by kernel_rfl)) rfl ⟨_, LN, by rw [hve]; rfl, RowsAt.set ⟨own_baseN HR.out.1 (by omega), HR.out.2⟩ rM _, by rw [hve, if_pos rfl, hP, ← h9, HN5.out]; exact HM.out, (HB.out.trans (HBr.out.mono hz)).setCell (by simp) _⟩
end Go.Proofs.YtfmdahfolnljkaaDoor
