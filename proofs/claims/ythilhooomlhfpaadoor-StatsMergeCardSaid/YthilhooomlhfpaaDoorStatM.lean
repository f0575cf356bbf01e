/- The walk of the statement StatsMerge. -/
import Derived.Test.YthilhooomlhfpaaDoorTwo
import Derived.Test.YthilhooomlhfpaaDoorStat3
import Derived.Test.YthilhooomlhfpaaDoorRow2
import Derived.Deep.RegionHeld3
namespace Go.Proofs.YthilhooomlhfpaaDoor
set_option linter.unusedVariables false
open Go Go.RowKit Go.ChangeShapes

theorem merge_some (a b m : St) (ha : a.Ok) (hb : b.Ok) (a0 : 0 ≤ a.e) (a1 : a.e ≤ 1099511627776) (b0 : 0 ≤ b.e) (b1 : b.e ≤ 1099511627776) (c0 : 0 ≤ a.n) (c1 : a.n ≤ 1099511627776) (d0 : 0 ≤ b.n) (d1 : b.n ≤ 1099511627776) (hm : mergeSt a b = some m) :
    (∀ w, Calls Tryd.prog 20 #[.agg (stA a), .agg (stA b)] w fun e w' => e = .returned (.tuple #[.agg (stA m), .nilIface]) ∧ Below w.heap.size w w') ∧
    (∀ w, Calls Tryd.prog 21 #[.agg (stA a), .agg (stA b)] w fun e w' => e = .returned (.tuple #[.agg (stA m), .int .i64 0]) ∧ Below w.heap.size w w') := by
  unfold mergeSt at hm
  split at hm
  · cases hm
  · rename_i hk
    obtain rfl := (Option.some.inj hm).symm
    cases h1 : a.has <;> cases h2 : b.has
    · exact ⟨fun w => by simpa [h1, h2] using merge_nn a b ha hb a0 a1 b0 b1 c0 c1 d0 d1 h1 h2 w, fun w => by simpa [h1, h2] using merged_nn a b ha hb a0 a1 b0 b1 c0 c1 d0 d1 h1 h2 w⟩
    · exact ⟨fun w => by simpa [h1, h2] using merge_ny a b ha hb a0 a1 b0 b1 c0 c1 d0 d1 h1 h2 w, fun w => by simpa [h1, h2] using merged_ny a b ha hb a0 a1 b0 b1 c0 c1 d0 d1 h1 h2 w⟩
    · exact ⟨fun w => by simpa [h1, h2] using merge_yn a b ha hb a0 a1 b0 b1 c0 c1 d0 d1 h1 h2 w, fun w => by simpa [h1, h2] using merged_yn a b ha hb a0 a1 b0 b1 c0 c1 d0 d1 h1 h2 w⟩
    · have hk' : a.lo.k = b.lo.k := by
        by_cases h : a.lo.k = b.lo.k
        · exact h
        · exact absurd ⟨h1, h2, h⟩ hk
      exact ⟨fun w => by simpa [h1, h2] using merge_yy a b ha hb a0 a1 b0 b1 c0 c1 d0 d1 h1 h2 hk' w, fun w => by simpa [h1, h2] using merged_yy a b ha hb a0 a1 b0 b1 c0 c1 d0 d1 h1 h2 hk' w⟩

set_option maxRecDepth 100000 in
set_option maxHeartbeats 4000000 in
theorem sm_early (a b : St) (w : World) (adr : Nat → Addr) (hE : ErrsAt w adr [3, 4]) (h : 1099511627776 < a.e ∨ 1099511627776 < b.e ∨ 1099511627776 < a.n ∨ 1099511627776 < b.n ∨ a.e < 0 ∨ b.e < 0 ∨ a.n < 0 ∨ b.n < 0) :
    Calls Tryd.prog 4 #[.agg (stA a), .agg (stA b)] w fun e w' => e = .returned (.bool true) ∧ Below w.heap.size w w' := by
  obtain ⟨ae, an, ah, al, aH⟩ := a
  obtain ⟨be, bn, bh, bl, bH⟩ := b
  simp only at h
  have H2 := Lib.hid (fun (w1 : World) (h : Below w.heap.size w w1) => two_any w1 adr (hE.below h))
  clear hE
  unfold stA
  have key : ∀ (P : Prop), (¬ ae ≤ 1099511627776 → P) → (ae ≤ 1099511627776 → ¬ be ≤ 1099511627776 → P) → (ae ≤ 1099511627776 → be ≤ 1099511627776 → ¬ an ≤ 1099511627776 → P) → (ae ≤ 1099511627776 → be ≤ 1099511627776 → an ≤ 1099511627776 → ¬ bn ≤ 1099511627776 → P) →
      (ae ≤ 1099511627776 → be ≤ 1099511627776 → an ≤ 1099511627776 → bn ≤ 1099511627776 → ae < 0 → P) → (ae ≤ 1099511627776 → be ≤ 1099511627776 → an ≤ 1099511627776 → bn ≤ 1099511627776 → ¬ ae < 0 → be < 0 → P) →
      (ae ≤ 1099511627776 → be ≤ 1099511627776 → an ≤ 1099511627776 → bn ≤ 1099511627776 → ¬ ae < 0 → ¬ be < 0 → an < 0 → P) → (ae ≤ 1099511627776 → be ≤ 1099511627776 → an ≤ 1099511627776 → bn ≤ 1099511627776 → ¬ ae < 0 → ¬ be < 0 → ¬ an < 0 → bn < 0 → P) → P := by
    intro P q1 q2 q3 q4 q5 q6 q7 q8
    by_cases p1 : ae ≤ 1099511627776
    · by_cases p2 : be ≤ 1099511627776
      · by_cases p3 : an ≤ 1099511627776
        · by_cases p4 : bn ≤ 1099511627776
          · by_cases p5 : ae < 0
            · exact q5 p1 p2 p3 p4 p5
            · by_cases p6 : be < 0
              · exact q6 p1 p2 p3 p4 p5 p6
              · by_cases p7 : an < 0
                · exact q7 p1 p2 p3 p4 p5 p6 p7
                · exact q8 p1 p2 p3 p4 p5 p6 p7 (by omega)
          · exact q4 p1 p2 p3 p4
        · exact q3 p1 p2 p3
      · exact q2 p1 p2
    · exact q1 p1
  have hw : Below w.heap.size w ((w.alloc (.cells #[.int .i64 ae, .int .i64 an, .bool ah, .int .i64 al.k, .int .i64 al.n, .string al.s, .int .i64 aH.k, .int .i64 aH.n, .string aH.s] 46)).alloc (.cells #[.int .i64 be, .int .i64 bn, .bool bh, .int .i64 bl.k, .int .i64 bl.n, .string bl.s, .int .i64 bH.k, .int .i64 bH.n, .string bH.s] 46)) := ((Below.refl _ _).alloc (Nat.le_refl _) _).alloc (by simp) _
  have Hw := Lib.hid hw
  clear hw
  apply key <;> (intros; clear h key; go_enter Tryd.func4, Tryd.ntmps4; go_wp2_with fail; refine (H2.out _ Hw.out).mono ?_; rintro e w1 ⟨rfl, hb1⟩; obtain ⟨rA, rB, hbw, hz⟩ := rows2 hb1; have cA := rowc rA; have cB := rowc rB; clear hb1 rA rB; go_wp2_with fail; go_ret; exact ⟨rfl, hbw⟩)

set_option maxRecDepth 100000 in
set_option maxHeartbeats 8000000 in
theorem sm_main (a b m : St) (u : Value) (ec : Nat) (a0 : 0 ≤ a.e) (a1 : a.e ≤ 1099511627776) (b0 : 0 ≤ b.e) (b1 : b.e ≤ 1099511627776) (c0 : 0 ≤ a.n) (c1 : a.n ≤ 1099511627776) (d0 : 0 ≤ b.n) (d1 : b.n ≤ 1099511627776) (w : World) (adr : Nat → Addr) (hE : ErrEnv w adr) (hu : u = .nilIface ∧ ec = 0 ∨ u = .iface 232 (.pointer (some (adr 4))) ∧ ec = 4 ∧ m = St.none)
    (hM : ∀ w1, Below w.heap.size w w1 → Calls Tryd.prog 20 #[.agg (stA a), .agg (stA b)] w1 fun e w' => e = .returned (.tuple #[.agg (stA m), u]) ∧ Below w1.heap.size w1 w')
    (hD : ∀ w1, Calls Tryd.prog 21 #[.agg (stA a), .agg (stA b)] w1 fun e w' => e = .returned (.tuple #[.agg (stA m), .int .i64 (ec : Nat)]) ∧ Below w1.heap.size w1 w') :
    Calls Tryd.prog 4 #[.agg (stA a), .agg (stA b)] w fun e w' => e = .returned (.bool true) ∧ Below w.heap.size w w' := by
  have H2 := Lib.hid (fun (w1 : World) (h : Below w.heap.size w w1) => two_any w1 adr (hE.errs.sub (by decide) |>.below h))
  have HE := Lib.hid hE
  have HSA := Lib.hid (fun w1 => statsOf_any a w1); have HSB := Lib.hid (fun w1 => statsOf_any b w1); have HSM := Lib.hid (fun w1 => statsOf_any m w1)
  have HM := Lib.hid hM; have HD := Lib.hid hD; have HU := Lib.hid hu
  have hw : Below w.heap.size w ((w.alloc (.cells #[.int .i64 a.e, .int .i64 a.n, .bool a.has, .int .i64 a.lo.k, .int .i64 a.lo.n, .string a.lo.s, .int .i64 a.hi.k, .int .i64 a.hi.n, .string a.hi.s] 46)).alloc (.cells #[.int .i64 b.e, .int .i64 b.n, .bool b.has, .int .i64 b.lo.k, .int .i64 b.lo.n, .string b.lo.s, .int .i64 b.hi.k, .int .i64 b.hi.n, .string b.hi.s] 46)) := ((Below.refl _ _).alloc (Nat.le_refl _) _).alloc (by simp) _
  have Hw := Lib.hid hw
  clear hw hE hM hD hu
  unfold stA at HSA HSB HSM HM HD
  unfold stA
  go_enter Tryd.func4, Tryd.ntmps4
  go_wp2_with fail
  refine (H2.out _ Hw.out).mono ?_; rintro e w1 ⟨rfl, hb1⟩
  obtain ⟨rA, rB, hbw, hz⟩ := rows2 hb1
  have RA := Lib.hid rA; have RB := Lib.hid rB; have Hbw := Lib.hid hbw
  have cA := rowc rA; have cB := rowc rB
  clear hb1 rA rB hbw
  go_upto_region 6 with fail
  go_cut [6, 7] (fun s6 s7 wx => s7 = u ∧ ∃ g : Nat, s6 = .pointer (some ⟨g, 0, none⟩) ∧ wx.heap[g]? = some (.cells #[.int .i64 m.e, .int .i64 m.n, .bool m.has, .int .i64 m.lo.k, .int .i64 m.lo.n, .string m.lo.s, .int .i64 m.hi.k, .int .i64 m.hi.n, .string m.hi.s] 36 (0, 0)) ∧ Below w1.heap.size w1 wx)
  case first =>
    have HB := Lib.hid (Below.refl w1.heap.size w1)
    go_region_held3 (fun w' => (∀ j, w'.cell? ⟨w.heap.size, j, none⟩ = (#[.int .i64 a.e, .int .i64 a.n, .bool a.has, .int .i64 a.lo.k, .int .i64 a.lo.n, .string a.lo.s, .int .i64 a.hi.k, .int .i64 a.hi.n, .string a.hi.s] : Array Value)[j]?) ∧ (∀ j, w'.cell? ⟨w.heap.size + 1, j, none⟩ = (#[.int .i64 b.e, .int .i64 b.n, .bool b.has, .int .i64 b.lo.k, .int .i64 b.lo.n, .string b.lo.s, .int .i64 b.hi.k, .int .i64 b.hi.n, .string b.hi.s] : Array Value)[j]?))
      (first | (with_reducible exact ⟨rowc RA.out, rowc RB.out⟩) | (with_reducible exact ⟨rowc_drew RA.out, rowc_drew RB.out⟩) | (with_reducible exact ⟨rowc_alloc RA.out _, rowc_alloc RB.out _⟩) | (with_reducible exact ⟨rowc_alloc_drew RA.out _, rowc_alloc_drew RB.out _⟩) | ((with_reducible refine ⟨rowc_set9 RA.out ?_ _ _ _ _ _ _ _ _ _, rowc_set9 RB.out ?_ _ _ _ _ _ _ _ _ _⟩) <;> omega))
      (first
      | (go_at_call 18; (with_reducible refine (HSA.out _).mono ?_); rintro e w2 ⟨rfl, hb2⟩; (first | ((with_reducible have hq := rows1 hb2); obtain ⟨rG, hbs, hl⟩ := hq; have cG := rowc rG; have fG := rowf rG; have RG := Lib.hid rG; have hgz := HB.out.size; clear rG hl) | ((with_reducible have hq := rows1d hb2); obtain ⟨rG, hbs, hl⟩ := hq; have cG := rowc rG; have fG := rowf rG; have RG := Lib.hid rG; have hgz := HB.out.size; clear rG hl) | ((with_reducible have hbs := drew_first hb2); try (replace RG := Lib.hid (row_keep hbs RG.out); replace cG := rowc RG.out; replace fG := rowf RG.out)) | (have hbs := hb2; try (replace RG := Lib.hid (row_keep hbs RG.out); replace cG := rowc RG.out; replace fG := rowf RG.out))); replace RA := Lib.hid (row_keep hbs RA.out); replace RB := Lib.hid (row_keep hbs RB.out); replace HB := Lib.hid (HB.out.trans (hbs.mono HB.out.size)); clear hb2 hbs)
      | (go_at_call 18; (with_reducible refine (HSB.out _).mono ?_); rintro e w2 ⟨rfl, hb2⟩; (first | ((with_reducible have hq := rows1 hb2); obtain ⟨rG, hbs, hl⟩ := hq; have cG := rowc rG; have fG := rowf rG; have RG := Lib.hid rG; have hgz := HB.out.size; clear rG hl) | ((with_reducible have hq := rows1d hb2); obtain ⟨rG, hbs, hl⟩ := hq; have cG := rowc rG; have fG := rowf rG; have RG := Lib.hid rG; have hgz := HB.out.size; clear rG hl) | ((with_reducible have hbs := drew_first hb2); try (replace RG := Lib.hid (row_keep hbs RG.out); replace cG := rowc RG.out; replace fG := rowf RG.out)) | (have hbs := hb2; try (replace RG := Lib.hid (row_keep hbs RG.out); replace cG := rowc RG.out; replace fG := rowf RG.out))); replace RA := Lib.hid (row_keep hbs RA.out); replace RB := Lib.hid (row_keep hbs RB.out); replace HB := Lib.hid (HB.out.trans (hbs.mono HB.out.size)); clear hb2 hbs)
      | (go_at_call 20; (with_reducible refine (HM.out _ ?_).mono ?_); (focus (first | exact (Hbw.out.trans (HB.out.mono Hbw.out.size)) | exact (Hbw.out.trans (HB.out.mono Hbw.out.size)).drew | exact (Hbw.out.trans (HB.out.mono Hbw.out.size)).alloc (Hbw.out.trans (HB.out.mono Hbw.out.size)).size _ | exact ((Hbw.out.trans (HB.out.mono Hbw.out.size)).alloc (Hbw.out.trans (HB.out.mono Hbw.out.size)).size _).drew)); rintro e w2 ⟨rfl, hb2⟩; (first | ((with_reducible have hq := rows1 hb2); obtain ⟨rG, hbs, hl⟩ := hq; have cG := rowc rG; have fG := rowf rG; have RG := Lib.hid rG; have hgz := HB.out.size; clear rG hl) | ((with_reducible have hq := rows1d hb2); obtain ⟨rG, hbs, hl⟩ := hq; have cG := rowc rG; have fG := rowf rG; have RG := Lib.hid rG; have hgz := HB.out.size; clear rG hl) | ((with_reducible have hbs := drew_first hb2); try (replace RG := Lib.hid (row_keep hbs RG.out); replace cG := rowc RG.out; replace fG := rowf RG.out)) | (have hbs := hb2; try (replace RG := Lib.hid (row_keep hbs RG.out); replace cG := rowc RG.out; replace fG := rowf RG.out))); replace RA := Lib.hid (row_keep hbs RA.out); replace RB := Lib.hid (row_keep hbs RB.out); replace HB := Lib.hid (HB.out.trans (hbs.mono HB.out.size)); clear hb2 hbs))
    all_goals (go_wp2_with fail; go_meet)
    all_goals first
      | (refine ⟨rfl, _, rfl, ?_, ?_⟩; (focus (with_reducible exact heap_alloc_new _ _)); (focus (with_reducible exact HB.out.alloc HB.out.size _)))
      | (refine ⟨rfl, _, rfl, ?_, ?_⟩; (focus (with_reducible exact row_set9 RG.out rfl _ _ _ _ _ _ _ _ _)); (focus (with_reducible exact below_set9 HB.out _ hgz _ _ _ _ _ _ _ _ _)))
  case rest =>
    obtain ⟨rfl, g, rfl, rM, hbx⟩ := hcut
    have RAx := Lib.hid (row_keep hbx RA.out); have RBx := Lib.hid (row_keep hbx RB.out); have RM := Lib.hid rM; have Hbx := Lib.hid (Hbw.out.trans (hbx.mono Hbw.out.size))
    clear cA cB rM hbx
    have cA := rowc RAx.out; have cB := rowc RBx.out
    go_wp2_with fail
    refine (HD.out _).mono ?_; rintro e w3 ⟨rfl, hb3⟩
    have RM3 := Lib.hid (row_keep hb3 RM.out); have Hb3 := Lib.hid (Hbx.out.trans (hb3.mono Hbx.out.size))
    clear hb3 cA cB
    rcases HU.out with ⟨rfl, rfl⟩ | ⟨rfl, rfl, rfl⟩
    · have he : ∀ wx, (binOp .eql 36 (.agg (stA m)) (.agg (stA m))).run Tryd.prog wx = .ok (.bool true) wx := fun wx => by rw [eql_st, stEq_self]
      unfold stA at he
      have hg3 := row_lt RM3.out
      go_upto_region 10 with fail
      have RM4 := Lib.hid ((Lib.alloc_old w3 (.cells #[.int .i64 m.e, .int .i64 m.n, .bool m.has, .int .i64 m.lo.k, .int .i64 m.lo.n, .string m.lo.s, .int .i64 m.hi.k, .int .i64 m.hi.n, .string m.hi.s] 46) g hg3).trans RM3.out)
      have RW4 := Lib.hid (heap_alloc_new w3 (.cells #[.int .i64 m.e, .int .i64 m.n, .bool m.has, .int .i64 m.lo.k, .int .i64 m.lo.n, .string m.lo.s, .int .i64 m.hi.k, .int .i64 m.hi.n, .string m.hi.s] 46))
      have Hb4 := Lib.hid (Hb3.out.alloc Hb3.out.size (.cells #[.int .i64 m.e, .int .i64 m.n, .bool m.has, .int .i64 m.lo.k, .int .i64 m.lo.n, .string m.lo.s, .int .i64 m.hi.k, .int .i64 m.hi.n, .string m.hi.s] 46))
      generalize w3.alloc (.cells #[.int .i64 m.e, .int .i64 m.n, .bool m.has, .int .i64 m.lo.k, .int .i64 m.lo.n, .string m.lo.s, .int .i64 m.hi.k, .int .i64 m.hi.n, .string m.hi.s] 46) = w4 at *
      generalize w3.heap.size = g4 at *
      have HB := Lib.hid (Below.refl w4.heap.size w4)
      have cM := rowc RM4.out; have cW := rowc RW4.out
      go_region_held3 (fun w' => (∀ j, w'.cell? ⟨g, j, none⟩ = (#[.int .i64 m.e, .int .i64 m.n, .bool m.has, .int .i64 m.lo.k, .int .i64 m.lo.n, .string m.lo.s, .int .i64 m.hi.k, .int .i64 m.hi.n, .string m.hi.s] : Array Value)[j]?) ∧ (∀ j, w'.cell? ⟨g4, j, none⟩ = (#[.int .i64 m.e, .int .i64 m.n, .bool m.has, .int .i64 m.lo.k, .int .i64 m.lo.n, .string m.lo.s, .int .i64 m.hi.k, .int .i64 m.hi.n, .string m.hi.s] : Array Value)[j]?))
        (first | (with_reducible exact ⟨rowc RM4.out, rowc RW4.out⟩) | (with_reducible exact ⟨rowc_drew RM4.out, rowc_drew RW4.out⟩))
        (first
        | (go_at_call 18; (with_reducible refine (HSM.out _).mono ?_); rintro e w5 ⟨rfl, hb5⟩; (first | (with_reducible have hbs := drew_first hb5) | (have hbs := hb5)); replace RM4 := Lib.hid (row_keep hbs RM4.out); replace RW4 := Lib.hid (row_keep hbs RW4.out); replace HB := Lib.hid (HB.out.trans (hbs.mono HB.out.size)); clear hb5 hbs))
      go_wp2_with fail
      go_ret
      exact ⟨rfl, Hb4.out.trans (HB.out.mono Hb4.out.size)⟩
    · have he : ∀ wx, (binOp .eql 36 (.agg (stA St.none)) (.agg (stA St.none))).run Tryd.prog wx = .ok (.bool true) wx := fun wx => by rw [eql_st, stEq_self]
      simp only [stA, St.none, zv] at he
      have HCd := Lib.hid (fun (w1 : World) (h : ErrEnv w1 adr) => show Calls Tryd.prog 22 #[.iface 232 (.pointer (some (adr 4))), .int .i64 4] w1 fun r w' => r = .returned (.bool true) ∧ Below w1.heap.size w1 w' from
        (coded_any (w := w1) (adr := adr) (e := .sent 4) (v := .iface 232 (.pointer (some (adr 4)))) 4 h ⟨by decide, by decide, rfl⟩).mono fun r w' ⟨h1, h2⟩ => ⟨h1.trans (ret_of (by simp [GErr.code, GErr.at'])), h2⟩)
      go_wp2_with fail
      refine (HCd.out _ (HE.out.below (Hb3.out.alloc Hb3.out.size _))).mono ?_; rintro e w5 ⟨rfl, hb5⟩
      obtain ⟨rW, hbq, hl⟩ := rows1 hb5
      have rM5 := row_keep hbq RM3.out
      simp only [St.none, zv] at rM5
      have cM := rowc rM5
      have Hb5 := Lib.hid (Hb3.out.trans (hbq.mono Hb3.out.size))
      clear hb5 rW hbq rM5
      go_wp2_with fail
      go_ret
      exact ⟨rfl, Hb5.out⟩

theorem statsMerge_law (a : St) (ha : a.Ok) (b : St) (hb : b.Ok) (w : World) (hL : laidMetH Tryd.prog Rows.statsMergeRow.laid w) :
    Calls Tryd.prog 4 #[.agg (stA a), .agg (stA b)] w fun e w' => e = .returned (.bool true) ∧ Below w.heap.size w w' := by
  have hL' : laidMetH Tryd.prog fullLaid w := hL
  obtain ⟨adr, hE⟩ := env_of_laid hL'
  by_cases h : 1099511627776 < a.e ∨ 1099511627776 < b.e ∨ 1099511627776 < a.n ∨ 1099511627776 < b.n ∨ a.e < 0 ∨ b.e < 0 ∨ a.n < 0 ∨ b.n < 0
  · exact sm_early a b w adr (hE.errs.sub (by decide)) h
  · cases hm : mergeSt a b with
    | some m =>
      obtain ⟨h1, h2⟩ := merge_some a b m ha hb (by omega) (by omega) (by omega) (by omega) (by omega) (by omega) (by omega) (by omega) hm
      exact sm_main a b m .nilIface 0 (by omega) (by omega) (by omega) (by omega) (by omega) (by omega) (by omega) (by omega) w adr hE (.inl ⟨rfl, rfl⟩) (fun w1 _ => h1 w1) h2
    | none =>
      have hk : a.has = true ∧ b.has = true ∧ a.lo.k ≠ b.lo.k := by
        by_cases hc : a.has = true ∧ b.has = true ∧ a.lo.k ≠ b.lo.k
        · exact hc
        · unfold mergeSt at hm; rw [if_neg hc] at hm; cases hm
      exact sm_main a b St.none _ 4 (by omega) (by omega) (by omega) (by omega) (by omega) (by omega) (by omega) (by omega) w adr hE (.inr ⟨rfl, rfl, rfl⟩)
        (fun w1 hw => merge_kind a b hk.1 hk.2.1 hk.2.2 w1 adr ((hE.errs.sub (by decide)).below hw))
        (fun w1 => merged_kind a b hk.1 hk.2.1 hk.2.2 (by omega) (by omega) (by omega) (by omega) (by omega) (by omega) (by omega) (by omega) w1)
end Go.Proofs.YthilhooomlhfpaaDoor
