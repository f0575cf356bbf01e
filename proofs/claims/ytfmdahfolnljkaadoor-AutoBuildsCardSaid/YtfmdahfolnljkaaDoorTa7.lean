/- The walk of the statement AutoBuilds. -/
import Derived.Test.YtfmdahfolnljkaaDoorTa6
import Derived.Test.YtfmdahfolnljkaaDoorTa5
import Derived.Test.YtfmdahfolnljkaaDoorNdArgs
import Derived.LaidSub
namespace Go.Proofs.YtfmdahfolnljkaaDoor
set_option linter.unusedVariables false
set_option linter.unusedSimpArgs false
open Go Go.RowKit Go.ChangeShapes

theorem valid_le (n : Nd) : validE n ≤ 8 := by
  unfold validE
  repeat' split
  all_goals omega
set_option maxRecDepth 100000 in
set_option maxHeartbeats 16000000 in
theorem auto_main (n : Nd) (u : Value) (w : World) (adr : Nat → Addr) (hE : ErrEnv w adr) (hN : IsNds (· < w.heap.size) w u n.sub) (hO : ∀ x ∈ nodes n, x.Ok1) :
    Calls Tryd.prog 3 #[.agg (ndA n u)] w fun e w' => e = .returned (.bool true) ∧ Below w.heap.size w w' := by
  have HE := Lib.hid (fun (w1 : World) (h : Below w.heap.size w w1) => hE.below h)
  have HN := Lib.hid (fun (w1 : World) (h : Below w.heap.size w w1) => (hN.under h).mono (Q := (· < w1.heap.size)) fun b hb _ => Nat.lt_of_lt_of_le hb h.size)
  have HL := Lib.hid (fun (w1 : World) (h : Below w.heap.size w w1) => line_any w1 adr ((HE.out w1 h).errs.sub (by decide)))
  have HT := Lib.hid (fun (w1 : World) (h : Below w.heap.size w w1) => tame_any n u w1 (HN.out w1 h) hO)
  have HS := Lib.hid (fun (w1 : World) (h : Below w.heap.size w w1) => schema_any n u w1 (HN.out w1 h) hO)
  have HO := Lib.hid (fun (w1 : World) (h : Below w.heap.size w w1) => ownNode_any n u w1 (HN.out w1 h) hO)
  have HB := Lib.hid (fun (w1 : World) (h : Below w.heap.size w w1) (x : Value) (hx : IsNds (· < w1.heap.size) w1 x n.sub) => build_any n x w1 adr ((HE.out w1 h).errs.sub (by decide)) hx hO)
  have HX := Lib.hid (fun (hv : validE n = 0) (w1 : World) (h : Below w.heap.size w w1) => nextOf_any n u w1 (HN.out w1 h) hO hv)
  have HC := Lib.hid (fun (k : Nat) (hk : validE n = k + 1) (w1 : World) (h : Below w.heap.size w w1) =>
    show Calls Tryd.prog 10 #[.iface 173 (.pointer (some (adr (k + 1)))), .int .i64 ((k : Int) + 1)] w1 fun r w' => r = .returned (.bool true) ∧ Below w1.heap.size w1 w' from
    (coded_any (w := w1) (adr := adr) (e := .sent (k + 1)) (v := .iface 173 (.pointer (some (adr (k + 1))))) ((k : Int) + 1) (HE.out w1 h) ⟨by omega, by have := valid_le n; omega, rfl⟩).mono fun r w' ⟨h3, h4⟩ => ⟨h3.trans (ret_of (by simp [GErr.code, GErr.at'])), h4⟩)
  have HR := Lib.hid (fun (hv : validE n = 0) (k : Nat) (hk : k < (lsL n.sub []).length) => rows_same hv k hk)
  obtain ⟨ad, cp, rfl⟩ := hN.form
  clear hE hN hO
  obtain ⟨len, hnl⟩ : ∃ len, n.sub.length = len := ⟨_, rfl⟩
  rw [hnl] at HT HS HO HX ⊢
  unfold BuildRet at HB
  unfold OwnRet at HO
  obtain ⟨R, hR⟩ : ∃ R, validE n = R := ⟨_, rfl⟩
  rw [hR] at HS HB HX HC HR
  clear hnl
  unfold ndA at *
  have hw1 : Below w.heap.size w (w.alloc (.cells #[.int .i64 n.id, .string n.name, .int .i64 n.rep, .int .i64 n.kind, .slice ad len cp] 24)) := (Below.refl _ _).alloc (Nat.le_refl _) _
  have rA := heap_alloc_new w (.cells #[.int .i64 n.id, .string n.name, .int .i64 n.rep, .int .i64 n.kind, .slice ad len cp] 24)
  have HW := Lib.hid hw1; have RA := Lib.hid rA
  clear hw1 rA
  go_enter Tryd.func3, Tryd.ntmps3
  go_upto_region 1 with fail
  generalize (w.alloc (.cells #[.int .i64 n.id, .string n.name, .int .i64 n.rep, .int .i64 n.kind, .slice ad len cp] 24)) = w1 at *
  go_wp2_with fail
  refine (HL.out w1 HW.out).mono ?_; rintro e w2 ⟨rfl, hb2⟩
  replace RA := Lib.hid (row_keep hb2 RA.out); replace HW := Lib.hid (HW.out.trans (hb2.mono HW.out.size))
  clear hb2
  have cA := rowc RA.out
  go_wp2_with fail
  refine (HT.out w2 HW.out).mono ?_; rintro e w3 ⟨b, rfl, hb3⟩
  replace RA := Lib.hid (row_keep hb3 RA.out); replace HW := Lib.hid (HW.out.trans (hb3.mono HW.out.size))
  clear hb3 cA
  cases b with
  | false =>
    go_wp2_with fail
    go_ret
    exact ⟨rfl, HW.out⟩
  | true =>
  have cA := rowc RA.out
  go_wp2_with fail
  refine (HS.out w3 HW.out).mono ?_; rintro e w4 ⟨rfl, hb4⟩
  replace RA := Lib.hid (row_keep hb4 RA.out); replace HW := Lib.hid (HW.out.trans (hb4.mono HW.out.size))
  clear hb4 cA
  have cA := rowc RA.out
  go_wp2_with fail
  refine (HO.out w4 HW.out).mono ?_; rintro e w5 ⟨ao, co, rfl, ho5, hb5⟩
  replace RA := Lib.hid (row_keep hb5 RA.out); replace HW := Lib.hid (HW.out.trans (hb5.mono HW.out.size))
  clear hb5 cA
  go_wp2_with fail
  refine (HB.out w5 HW.out _ (ho5.mono (Q := (· < w5.heap.size)) fun b _ hb => hb)).mono ?_; rintro e w6 ⟨v, LN, rfl, hlr, hlm, hb6⟩
  replace RA := Lib.hid (row_keep hb6 RA.out); replace HW := Lib.hid (HW.out.trans (hb6.mono HW.out.size))
  clear hb6 ho5
  obtain ⟨av, cv, rfl⟩ := own_form hlr.1
  obtain ⟨n6, hn6⟩ : ∃ n6, LN.length = n6 := ⟨_, rfl⟩
  rw [hn6] at hlr ⊢
  have hbm := (Below.refl w6.heap.size w6).alloc (Nat.le_refl _) (.cells #[.slice av n6 cv] 30)
  have rM := heap_alloc_new w6 (.cells #[.slice av n6 cv] 30)
  have HLR := Lib.hid (hlr.below hbm); have HN6 := Lib.hid hn6; have HLM := Lib.hid hlm
  have RM := Lib.hid rM; have HBM := Lib.hid hbm
  obtain ⟨gm, hgm⟩ : ∃ gm, w6.heap.size = gm := ⟨_, rfl⟩
  have HGM := Lib.hid hgm
  clear hlr hlm hn6 rM hbm
  obtain ⟨ev, hev⟩ : ∃ ev, eV adr R = ev := ⟨_, rfl⟩
  rw [hev]
  have HEV := Lib.hid hev
  clear hev
  go_upto_region 6 with fail
  replace RA := Lib.hid (row_keep HBM.out RA.out); replace HW := Lib.hid (HW.out.trans (HBM.out.mono HW.out.size))
  try rw [hgm] at RM
  try rw [hgm]
  clear HBM hgm
  generalize (w6.alloc (.cells #[.slice av n6 cv] 30)) = w7 at *
  have cM := rowc RM.out
  by_cases h0 : R = 0
  case neg =>
    obtain ⟨k, rfl⟩ : ∃ k, R = k + 1 := ⟨R - 1, by omega⟩
    have hlm := HLM.out
    rw [if_neg h0] at hlm
    obtain rfl : n6 = 0 := by rw [← HN6.out, List.map_eq_nil_iff.1 hlm]; rfl
    obtain rfl := HEV.out
    have HC2 := Lib.hid (HC.out k rfl)
    unfold eV
    have d0 : decide ((0 : Int) < ((k + 1 : Nat) : Int)) = true := decide_eq_true (by omega)
    clear hlm h0 HC
    go_wp2_with fail
    refine (HC2.out w7 HW.out).mono ?_; rintro e w8 ⟨rfl, hb8⟩
    replace RM := Lib.hid (row_keep hb8 RM.out); replace HW := Lib.hid (HW.out.trans (hb8.mono HW.out.size))
    clear hb8 cM
    have cM := rowc RM.out
    go_wp2_with fail
    go_ret
    exact ⟨rfl, HW.out⟩
  subst h0
  have hlm := HLM.out
  rw [if_pos rfl] at hlm
  obtain rfl := HEV.out
  have HXX := Lib.hid (HX.out rfl w7 HW.out)
  have hrr := HR.out rfl
  have HLM0 := Lib.hid hlm; have HRR := Lib.hid hrr
  have cA := rowc RA.out
  unfold eV
  clear hlm hrr HLM HR HC HX HEV
  go_wp2_with fail
  refine HXX.out.mono ?_; rintro e w8 ⟨v8, LW, rfl, hlw, hlm, hb8⟩
  replace RM := Lib.hid (row_keep hb8 RM.out); replace HW := Lib.hid (HW.out.trans (hb8.mono HW.out.size)); replace HLR := Lib.hid (HLR.out.below hb8)
  clear hb8 cM cA HXX
  obtain ⟨P, hP⟩ : ∃ P, (List.range (lsL n.sub []).length).map (rowB (lsL n.sub [])) = P := ⟨_, rfl⟩
  have hP2 : (List.range (lsL n.sub []).length).map (rowD (lsL n.sub [])) = P := by
    rw [← hP]
    exact (List.map_congr_left fun k hk => HRR.out k (List.mem_range.1 hk)).symm
  have hPl : P.length = n6 := by rw [← HN6.out, ← hP, ← HLM0.out, List.length_map]
  have hPs : ∀ q ∈ P, q.length ≤ 1000 := by
    intro q hq
    rw [← hP] at hq
    obtain ⟨k, hk, rfl⟩ := List.mem_map.1 hq
    unfold rowB
    rw [List.length_map, List.length_range]
    have h1 := ls_small.2 n.sub [] ((lsL n.sub []).getD k []) (by rw [List.getD_eq_getElem?_getD, List.getElem?_eq_getElem (List.mem_range.1 hk)]; exact List.getElem_mem _)
    have hg := (valid_facts hR).1
    unfold goodB at hg
    rw [decide_eq_true_iff, hgt_eq] at hg
    rw [List.length_nil] at h1
    omega
  have hn40 : n6 ≤ 1000 := by
    rw [← hPl, ← hP, List.length_map, List.length_range]
    have h1 := lsL_len.2 n.sub []
    have hg := (valid_facts hR).1
    unfold goodB at hg
    rw [decide_eq_true_iff, size_eq] at hg
    omega
  obtain ⟨a8, c8, rfl⟩ := own_form hlw.1
  have hl8 : LW.length = n6 := by rw [← hPl, ← hP2, ← hlm, List.length_map]
  rw [hP2] at hlm
  have HLM1 : Hid (LN.map Prod.fst = P) := Lib.hid (HLM0.out.trans hP)
  rw [hl8] at hlw ⊢
  have HLW := Lib.hid hlw; have HLM2 := Lib.hid hlm; have HPS := Lib.hid hPs; have HL8 := Lib.hid hl8; have HN40 := Lib.hid hn40
  have cM := rowc RM.out
  have dnn : ((n6 : Int) != (n6 : Int)) = false := by simp
  clear hlw hlm hPs hl8 hP hP2 hPl hn40 HLM0 HRR
  go_wp2_with fail
  go_loopw [8] (fun i wr => ∃ k : Nat, k ≤ n6 ∧ i = .int .i64 (k : Nat) ∧ Hid (Below w8.heap.size w8 wr)) (fun i _ => n6 - (intOf i).toNat)
  case atStart => exact ⟨0, Nat.zero_le _, rfl, Below.refl _ _⟩
  case round =>
    obtain ⟨k, hk, rfl, HBr⟩ := hrel
    clear cM
    by_cases hlt : k < n6
    · have hg3 : ∃ g3, av = some ⟨g3, 0, none⟩ := by
        rcases HLR.out.1.2 with ⟨h1, h0⟩ | ⟨g, cap, cur, h1, _⟩
        · rw [HN6.out] at h0; omega
        · injection h1 with h1; exact ⟨g, h1⟩
      have hg4 : ∃ g4, a8 = some ⟨g4, 0, none⟩ := by
        rcases HLW.out.1.2 with ⟨h1, h0⟩ | ⟨g, cap, cur, h1, _⟩
        · rw [HL8.out] at h0; omega
        · injection h1 with h1; exact ⟨g, h1⟩
      obtain ⟨g3, rfl⟩ := hg3
      obtain ⟨g4, rfl⟩ := hg4
      have Hlt := Lib.hid hlt
      have hin : (k : Int) < (n6 : Int) := Int.ofNat_lt.2 hlt
      have dk : decide (k < n6) = true := decide_eq_true hlt
      clear hlt hk
      go_upto_region 14 with fail
      have hbd := (Below.refl wr.heap.size wr).drew
      have hbr := HBr.out.trans (hbd.mono HBr.out.size)
      obtain ⟨a3, c3, hc3, hi3, hl3⟩ := rows_get (HLR.out.below hbr) HLM1.out HPS.out HN6.out k Hlt.out
      obtain ⟨a4, c4, hc4, hi4, -⟩ := rows_get (HLW.out.below hbr) HLM2.out HPS.out HL8.out k Hlt.out
      have RMr := Lib.hid (row_keep hbr RM.out); have HBd := Lib.hid hbr; have HI3 := Lib.hid hi3.1; have HI4 := Lib.hid hi4.1; have HL3 := Lib.hid hl3
      refine AnyE.region (S := fun w' => (∀ j_1, w'.cell? ⟨gm, j_1, none⟩ = (#[.slice (some ⟨g3, 0, none⟩) n6 cv] : Array Value)[j_1]?) ∧ w'.cell? ⟨g3, k, none⟩ = some (.slice a3 (P.getD k []).length c3) ∧ w'.cell? ⟨g4, k, none⟩ = some (.slice a4 (P.getD k []).length c4)) (E := []) (by kernel_rfl) ?_
      have hS := (⟨rowc RMr.out, hc3, hc4⟩ : (fun w' => (∀ j_1, w'.cell? ⟨gm, j_1, none⟩ = (#[.slice (some ⟨g3, 0, none⟩) n6 cv] : Array Value)[j_1]?) ∧ w'.cell? ⟨g3, k, none⟩ = some (.slice a3 (P.getD k []).length c3) ∧ w'.cell? ⟨g4, k, none⟩ = some (.slice a4 (P.getD k []).length c4)) wr.drew)
      clear hbd hbr hi3 hi4 hl3
      generalize wr.drew = wd at *
      generalize P.getD k [] = pk at *
      clear hc3 hc4
      refine AnyE.take (i := 0) (v := ?_) rfl (by kernel_rfl) (by kernel_rfl) (by kernel_rfl) (by kernel_rfl) (by kernel_rfl) (fun _ _ _ h => h) (Or.inl ⟨by rfl, ?_⟩) hS ?_
      rotate_left
      focus (intro wq hSq; obtain ⟨hS1, hS2, hS3⟩ := hSq; go_simp; with_reducible rfl)
      try simp only [Act.put, List.getElem_toArray, List.getElem_cons_succ, List.getElem_cons_zero, List.setIfInBounds_toArray, List.set_cons_zero, List.set_cons_succ]
      refine AnyE.take (i := 1) (v := ?_) rfl (by kernel_rfl) (by kernel_rfl) (by kernel_rfl) (by kernel_rfl) (by kernel_rfl) (fun _ _ _ h => h) (Or.inl ⟨by rfl, ?_⟩) hS ?_
      rotate_left
      focus (intro wq hSq; obtain ⟨hS1, hS2, hS3⟩ := hSq; go_simp; with_reducible rfl)
      try simp only [Act.put, List.getElem_toArray, List.getElem_cons_succ, List.getElem_cons_zero, List.setIfInBounds_toArray, List.set_cons_zero, List.set_cons_succ]
      refine AnyE.take (i := 2) (v := ?_) rfl (by kernel_rfl) (by kernel_rfl) (by kernel_rfl) (by kernel_rfl) (by kernel_rfl) (fun _ _ _ h => h) (Or.inl ⟨by rfl, ?_⟩) hS ?_
      rotate_left
      focus (intro wq hSq; obtain ⟨hS1, hS2, hS3⟩ := hSq; go_simp; with_reducible rfl)
      try simp only [Act.put, List.getElem_toArray, List.getElem_cons_succ, List.getElem_cons_zero, List.setIfInBounds_toArray, List.set_cons_zero, List.set_cons_succ]
      refine AnyE.take (i := 3) (v := ?_) rfl (by kernel_rfl) (by kernel_rfl) (by kernel_rfl) (by kernel_rfl) (by kernel_rfl) (fun _ _ _ h => h) (Or.inl ⟨by rfl, ?_⟩) hS ?_
      rotate_left
      focus (intro wq hSq; obtain ⟨hS1, hS2, hS3⟩ := hSq; go_simp; with_reducible rfl)
      try simp only [Act.put, List.getElem_toArray, List.getElem_cons_succ, List.getElem_cons_zero, List.setIfInBounds_toArray, List.set_cons_zero, List.set_cons_succ]
      refine AnyE.take (i := 4) (v := ?_) rfl (by kernel_rfl) (by kernel_rfl) (by kernel_rfl) (by kernel_rfl) (by kernel_rfl) (fun _ _ _ h => h) (Or.inl ⟨by rfl, ?_⟩) hS ?_
      rotate_left
      focus (intro wq hSq; obtain ⟨hS1, hS2, hS3⟩ := hSq; go_simp; with_reducible rfl)
      try simp only [Act.put, List.getElem_toArray, List.getElem_cons_succ, List.getElem_cons_zero, List.setIfInBounds_toArray, List.set_cons_zero, List.set_cons_succ]
      refine AnyE.take (i := 5) (v := ?_) rfl (by kernel_rfl) (by kernel_rfl) (by kernel_rfl) (by kernel_rfl) (by kernel_rfl) (fun _ _ _ h => h) (Or.inl ⟨by rfl, ?_⟩) hS ?_
      rotate_left
      focus (intro wq hSq; obtain ⟨hS1, hS2, hS3⟩ := hSq; go_simp; with_reducible rfl)
      try simp only [Act.put, List.getElem_toArray, List.getElem_cons_succ, List.getElem_cons_zero, List.setIfInBounds_toArray, List.set_cons_zero, List.set_cons_succ]
      refine AnyE.take (i := 6) (v := ?_) rfl (by kernel_rfl) (by kernel_rfl) (by kernel_rfl) (by kernel_rfl) (by kernel_rfl) (fun _ _ _ h => h) (Or.inl ⟨by rfl, ?_⟩) hS ?_
      rotate_left
      focus (intro wq hSq; obtain ⟨hS1, hS2, hS3⟩ := hSq; go_simp; with_reducible rfl)
      try simp only [Act.put, List.getElem_toArray, List.getElem_cons_succ, List.getElem_cons_zero, List.setIfInBounds_toArray, List.set_cons_zero, List.set_cons_succ]
      refine AnyE.take (i := 7) (v := ?_) rfl (by kernel_rfl) (by kernel_rfl) (by kernel_rfl) (by kernel_rfl) (by kernel_rfl) (fun _ _ _ h => h) (Or.inl ⟨by rfl, ?_⟩) hS ?_
      rotate_left
      focus (intro wq hSq; obtain ⟨hS1, hS2, hS3⟩ := hSq; go_simp; with_reducible rfl)
      try simp only [Act.put, List.getElem_toArray, List.getElem_cons_succ, List.getElem_cons_zero, List.setIfInBounds_toArray, List.set_cons_zero, List.set_cons_succ]
      refine AnyE.take (i := 8) (v := ?_) rfl (by kernel_rfl) (by kernel_rfl) (by kernel_rfl) (by kernel_rfl) (by kernel_rfl) (fun _ _ _ h => h) (Or.inl ⟨by rfl, ?_⟩) hS ?_
      rotate_left
      focus (intro wq hSq; obtain ⟨hS1, hS2, hS3⟩ := hSq; go_simp; with_reducible rfl)
      try simp only [Act.put, List.getElem_toArray, List.getElem_cons_succ, List.getElem_cons_zero, List.setIfInBounds_toArray, List.set_cons_zero, List.set_cons_succ]
      refine AnyE.one (i := 9) (by kernel_rfl) rfl rfl ?_
      intro K hK
      simp only [List.getElem_toArray, List.getElem_cons_succ, List.getElem_cons_zero]
      go_simp
      refine (sameInts_same _ _ pk wd HI3.out HI4.out (Nat.le_trans HL3.out (by decide))).mono ?_; rintro e w9 ⟨rfl, hb9⟩
      have hS9 := (⟨rowc (row_keep hb9 RMr.out), (hb9.cell (p := ⟨g3, k, none⟩) (block_lt_of_cell hS.2.1)).trans hS.2.1, (hb9.cell (p := ⟨g4, k, none⟩) (block_lt_of_cell hS.2.2)).trans hS.2.2⟩ : (fun w' => (∀ j_1, w'.cell? ⟨gm, j_1, none⟩ = (#[.slice (some ⟨g3, 0, none⟩) n6 cv] : Array Value)[j_1]?) ∧ w'.cell? ⟨g3, k, none⟩ = some (.slice a3 pk.length c3) ∧ w'.cell? ⟨g4, k, none⟩ = some (.slice a4 pk.length c4)) w9)
      refine hK _ _ (fun _ => ⟨rowc (row_keep hb9 RMr.out), (hb9.cell (p := ⟨g3, k, none⟩) (block_lt_of_cell hS.2.1)).trans hS.2.1, (hb9.cell (p := ⟨g4, k, none⟩) (block_lt_of_cell hS.2.2)).trans hS.2.2⟩) ?_
      replace HBd := Lib.hid (HBd.out.trans (hb9.mono HBd.out.size))
      clear hK K hS hb9
      try simp only [Act.put, List.getElem_toArray, List.getElem_cons_succ, List.getElem_cons_zero, List.setIfInBounds_toArray, List.set_cons_zero, List.set_cons_succ]
      refine AnyE.one (i := 10) (by kernel_rfl) rfl rfl ?_
      intro K hK
      simp only [List.getElem_toArray, List.getElem_cons_succ, List.getElem_cons_zero]
      go_simp
      refine hK _ _ (fun _ => hS9) ?_
      clear hK K
      try simp only [Act.put, List.getElem_toArray, List.getElem_cons_succ, List.getElem_cons_zero, List.setIfInBounds_toArray, List.set_cons_zero, List.set_cons_succ]
      refine AnyE.done (by kernel_rfl) ?_ _
      have hk1 : k ≤ 1001 := Nat.le_trans (Nat.le_of_lt Hlt.out) (Nat.le_trans HN40.out (by decide))
      have HK1 := Lib.hid hk1
      clear hk1
      go_wp2_with fail
      go_roundw
      case rel => exact ⟨k + 1, Hlt.out, by rw [wrap64_up HK1.out], HBd.out⟩
      case measure => exact meas_up Hlt.out HK1.out
    · obtain rfl : k = n6 := Nat.le_antisymm hk (Nat.le_of_not_lt hlt)
      have dk : decide (k < k) = false := by simp
      clear hlt hk
      go_wp2_with fail
      go_ret
      exact ⟨rfl, HW.out.trans (HBr.out.mono HW.out.size)⟩
theorem autoBuilds_law {w : World} (n : Nd) (u : Value) (hN : IsNds (· < w.heap.size) w u n.sub) (hO : ∀ x ∈ nodes n, x.Ok1) (hL : laidMetH Tryd.prog Rows.autoBuildsRow.laid w) :
    Calls Tryd.prog 3 #[.agg (ndA n u)] w fun e w' => e = .returned (.bool true) ∧ Below w.heap.size w w' := by
  have hk := hL.filter fun x => !(x.1 == "unicode/utf8.acceptRanges" || x.1 == "unicode/utf8.first")
  have e : (Rows.autoBuildsRow.laid.filter fun x => !(x.1 == "unicode/utf8.acceptRanges" || x.1 == "unicode/utf8.first")) = fullLaid := by rfl
  have hL' : laidMetH Tryd.prog fullLaid w := e ▸ hk
  obtain ⟨adr, hE⟩ := env_of_laid hL'
  exact auto_main n u w adr hE hN hO
end Go.Proofs.YtfmdahfolnljkaaDoor
