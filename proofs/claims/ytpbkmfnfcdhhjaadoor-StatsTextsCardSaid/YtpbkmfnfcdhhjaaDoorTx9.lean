/- The walk of the statement StatsTexts. -/
import Derived.Test.YtpbkmfnfcdhhjaaDoorTx8
import Derived.Test.YtpbkmfnfcdhhjaaDoorTx7
import Derived.Test.YtpbkmfnfcdhhjaaDoorTx2
import Derived.Test.YtpbkmfnfcdhhjaaDoorMKnown
import Derived.Deep.RegionHeld3
namespace Go.Proofs.YtpbkmfnfcdhhjaaDoor
set_option linter.unusedVariables false
open Go Go.RowKit Go.ChangeShapes

theorem readRef_pos {L : List UInt8} {t : St} {k : Nat} (h : readRef L = some (t, k)) : 0 < k := by
  unfold readRef at h
  split at h
  · cases h
  · split at h
    · cases h
    · split at h
      · cases h
      · split at h
        · cases h
        · split at h
          · cases h
          · split at h
            · cases h
            · split at h
              · cases h
              · split at h
                · simp only [Option.some.injEq, Prod.mk.injEq] at h; omega
                · split at h
                  · cases h
                  · split at h
                    · cases h
                    · rename_i v v2 p hp
                      simp only [Option.some.injEq, Prod.mk.injEq] at h
                      obtain ⟨-, rfl⟩ := h
                      unfold twoRef at hp
                      split at hp
                      · cases hp
                      · split at hp
                        · cases hp
                        · split at hp
                          · cases hp
                          · split at hp
                            · cases hp
                            · split at hp
                              · cases hp
                              · simp only [Option.some.injEq, Prod.mk.injEq] at hp; omega

set_option maxRecDepth 100000 in
set_option maxHeartbeats 8000000 in
theorem stx_early (a : St) (s : ByteArray) (h : 1000 < s.size ∨ 1000 < a.lo.s.size ∨ 1000 < a.hi.s.size) (w : World) (adr : Nat → Addr) (hE : ErrEnv w adr) :
    Calls Tryd.prog 4 #[.agg (stA a), .string s] w fun e w' => e = .returned (.bool true) ∧ Below w.heap.size w w' := by
  have H2 := Lib.hid (fun (w1 : World) (h : Below w.heap.size w w1) => two_any w1 adr (hE.errs.sub (by decide) |>.below h))
  clear hE
  obtain ⟨ae, an, ah, al, aH⟩ := a
  simp only at h
  unfold stA
  by_cases h1 : 1000 < s.size
  · have h1' : (1000 : Int) < (s.size : Int) := by omega
    clear h h1
    go_enter Tryd.func4, Tryd.ntmps4
    go_wp2_with fail
    refine (H2.out _ ((Below.refl _ _).alloc (Nat.le_refl _) _)).mono ?_; rintro e w1 ⟨rfl, hb1⟩
    obtain ⟨rA, hbw, hz⟩ := rows1 hb1
    have cA := rowc rA
    clear hb1 rA
    go_wp2_with fail
    go_ret
    exact ⟨rfl, hbw⟩
  have h1' : ¬ (1000 : Int) < (s.size : Int) := by omega
  by_cases h2 : 1000 < al.s.size
  · have h2' : (1000 : Int) < (al.s.size : Int) := by omega
    clear h h1 h2
    go_enter Tryd.func4, Tryd.ntmps4
    go_wp2_with fail
    refine (H2.out _ ((Below.refl _ _).alloc (Nat.le_refl _) _)).mono ?_; rintro e w1 ⟨rfl, hb1⟩
    obtain ⟨rA, hbw, hz⟩ := rows1 hb1
    have cA := rowc rA
    clear hb1 rA
    go_wp2_with fail
    go_ret
    exact ⟨rfl, hbw⟩
  have h2' : ¬ (1000 : Int) < (al.s.size : Int) := by omega
  have h3' : (1000 : Int) < (aH.s.size : Int) := by omega
  clear h h1 h2
  go_enter Tryd.func4, Tryd.ntmps4
  go_wp2_with fail
  refine (H2.out _ ((Below.refl _ _).alloc (Nat.le_refl _) _)).mono ?_; rintro e w1 ⟨rfl, hb1⟩
  obtain ⟨rA, hbw, hz⟩ := rows1 hb1
  have cA := rowc rA
  clear hb1 rA
  go_wp2_with fail
  go_ret
  exact ⟨rfl, hbw⟩

set_option maxRecDepth 100000 in
set_option maxHeartbeats 16000000 in
theorem stx_main (a : St) (ha : a.Ok) (s : ByteArray) (hs : s.size ≤ 1000) (h1 : a.lo.s.size ≤ 1000) (h2 : a.hi.s.size ≤ 1000) (w : World) (adr : Nat → Addr) (hE : ErrEnv w adr) :
    Calls Tryd.prog 4 #[.agg (stA a), .string s] w fun e w' => e = .returned (.bool true) ∧ Below w.heap.size w w' := by
  have H2 := Lib.hid (fun (w1 : World) (h : Below w.heap.size w w1) => two_any w1 adr (hE.errs.sub (by decide) |>.below h))
  have HE := Lib.hid hE
  have HSO := Lib.hid (fun w1 => statsOf_any a w1)
  have HT1 := Lib.hid (fun (w1 : World) (h : Below w.heap.size w w1) => text_st a ha (by omega) (by omega) w1 adr ((hE.errs.sub (by decide)).below h))
  have HT2 := Lib.hid (fun (w1 : World) => statsText_st a ha (by omega) (by omega) w1)
  have HR := Lib.hid (fun (w1 : World) (h : Below w.heap.size w w1) => read_any s (by omega) w1 adr ((hE.errs.sub (by decide)).below h))
  have HD := Lib.hid (fun (w1 : World) => rso_any s (by omega) w1)
  rw [readPr_eq] at HR
  have HP := Lib.hid (fun t k h => readRef_pos (L := s.data.toList) (t := t) (k := k) h)
  have HC := Lib.hid (fun (w1 : World) (h1 : ErrEnv w1 adr) => show Calls Tryd.prog 22 #[.iface 222 (.pointer (some (adr 1))), .int .i64 1] w1 fun r w' => r = .returned (.bool true) ∧ Below w1.heap.size w1 w' from
    (coded_any (e := .sent 1) 1 h1 ⟨by decide, by decide, rfl⟩).mono fun r w' ⟨h3, h4⟩ => ⟨h3.trans (ret_of (by rfl)), h4⟩)
  clear ha hE
  generalize readRef s.data.toList = rr at *
  generalize stText a = txt at *
  obtain ⟨ae, an, ah, al, aH⟩ := a
  simp only at h1 h2
  have hs' : ¬ (1000 : Int) < (s.size : Int) := by omega
  have h1' : ¬ (1000 : Int) < (al.s.size : Int) := by omega
  have h2' : ¬ (1000 : Int) < (aH.s.size : Int) := by omega
  clear hs h1 h2
  unfold stA at *
  go_enter Tryd.func4, Tryd.ntmps4
  go_wp2_with fail
  refine (H2.out _ ((Below.refl _ _).alloc (Nat.le_refl _) _)).mono ?_; rintro e w1 ⟨rfl, hb1⟩
  obtain ⟨rA, hbw, hz⟩ := rows1 hb1
  have RA := Lib.hid rA; have Hbw := Lib.hid hbw
  have cA := rowc RA.out
  clear hb1 rA hbw hz H2
  go_upto_region 4 with fail
  have HB := Lib.hid (Below.refl w1.heap.size w1)
  go_region_held3 (fun w' => ∀ j, w'.cell? ⟨w.heap.size, j, none⟩ = (#[.int .i64 ae, .int .i64 an, .bool ah, .int .i64 al.k, .int .i64 al.n, .string al.s, .int .i64 aH.k, .int .i64 aH.n, .string aH.s] : Array Value)[j]?) (first | (with_reducible exact rowc RA.out) | (with_reducible exact rowc_drew RA.out))
    (first
    | (go_at_call 18; (with_reducible refine (HSO.out _).mono ?_); rintro e w9 ⟨rfl, hb9⟩; (first | (with_reducible have hbs := drew_first hb9) | (have hbs := hb9)); replace RA := Lib.hid (row_keep hbs RA.out); replace HB := Lib.hid (HB.out.trans (hbs.mono HB.out.size)); clear hb9 hbs)
    | (go_at_call 17; (with_reducible refine (HT1.out _ ?_).mono ?_); (focus (first | exact (Hbw.out.trans (HB.out.mono Hbw.out.size)) | exact (Hbw.out.trans (HB.out.mono Hbw.out.size)).drew)); rintro e w9 ⟨rfl, hb9⟩; (first | (with_reducible have hbs := drew_first hb9) | (have hbs := hb9)); replace RA := Lib.hid (row_keep hbs RA.out); replace HB := Lib.hid (HB.out.trans (hbs.mono HB.out.size)); clear hb9 hbs)
    | (go_at_call 19; (with_reducible refine (HT2.out _).mono ?_); rintro e w9 ⟨rfl, hb9⟩; (first | (with_reducible have hbs := drew_first hb9) | (have hbs := hb9)); replace RA := Lib.hid (row_keep hbs RA.out); replace HB := Lib.hid (HB.out.trans (hbs.mono HB.out.size)); clear hb9 hbs))
  all_goals
    go_wp2_with fail
    refine (HR.out _ (Hbw.out.trans (HB.out.mono Hbw.out.size))).mono ?_; rintro e w2 ⟨rfl, hb2⟩
    replace Hbw := Lib.hid ((Hbw.out.trans (HB.out.mono Hbw.out.size)).trans (hb2.mono (Hbw.out.trans (HB.out.mono Hbw.out.size)).size))
    clear hb2
    clear HB cA RA
    cases hrr : rr with
    | none =>
      rw [hrr] at HD
      simp only [stRet, refRet, stA, St.none, zv] at HD ⊢
      have he : ∀ wx, (binOp .eql 33 (.agg (stA St.none)) (.agg (stA St.none))).run Tryd.prog wx = .ok (.bool true) wx := fun wx => by rw [eql_st, stEq_self]
      simp only [stA, St.none, zv] at he
      go_wp2_with fail
      refine (HD.out _).mono ?_; rintro e w3 ⟨rfl, hb3⟩
      obtain ⟨rT, hbw3, hz⟩ := rows1 hb3
      have RT := Lib.hid rT; replace Hbw := Lib.hid (Hbw.out.trans (hbw3.mono Hbw.out.size))
      clear hb3 rT hbw3 hz
      have cT := rowc RT.out
      go_wp2_with fail
      refine (HC.out _ (HE.out.below (Hbw.out.alloc Hbw.out.size _))).mono ?_; rintro e w4 ⟨rfl, hb4⟩
      have hb5 := ((Below.refl w3.heap.size w3).alloc (Nat.le_refl _) _).trans (hb4.mono (by simp))
      have RT4 := Lib.hid (row_keep hb5 RT.out); replace Hbw := Lib.hid (Hbw.out.trans (hb5.mono Hbw.out.size))
      clear hb4 hb5 cT
      have cT := rowc RT4.out
      go_wp2_with fail
      go_ret
      exact ⟨rfl, Hbw.out⟩
    | some tk =>
      obtain ⟨t, k⟩ := tk
      have hk := HP.out t k hrr
      have hk0 : ((k : Int) == 0) = false := by rw [beq_eq_false_iff_ne]; omega
      rw [hrr] at HD
      have HST := Lib.hid (fun w1 => statsOf_any t w1)
      have he : ∀ wx, (binOp .eql 33 (.agg (stA t)) (.agg (stA t))).run Tryd.prog wx = .ok (.bool true) wx := fun wx => by rw [eql_st, stEq_self]
      simp only [stRet, refRet, stA] at HD HST he ⊢
      clear hk hrr
      go_wp2_with fail
      refine (HD.out _).mono ?_; rintro e w3 ⟨rfl, hb3⟩
      obtain ⟨rT, hbw3, hz⟩ := rows1 hb3
      have RT := Lib.hid rT; replace Hbw := Lib.hid (Hbw.out.trans (hbw3.mono Hbw.out.size))
      clear hb3 rT hbw3
      have cT := rowc RT.out
      go_upto_region 10 with fail
      have RD := Lib.hid (heap_alloc_new w3 (.cells #[.int .i64 t.e, .int .i64 t.n, .bool t.has, .int .i64 t.lo.k, .int .i64 t.lo.n, .string t.lo.s, .int .i64 t.hi.k, .int .i64 t.hi.n, .string t.hi.s] 50))
      replace RT := Lib.hid ((Lib.alloc_old w3 (.cells #[.int .i64 t.e, .int .i64 t.n, .bool t.has, .int .i64 t.lo.k, .int .i64 t.lo.n, .string t.lo.s, .int .i64 t.hi.k, .int .i64 t.hi.n, .string t.hi.s] 50) _ (row_lt RT.out)).trans RT.out)
      replace Hbw := Lib.hid (Hbw.out.alloc Hbw.out.size (.cells #[.int .i64 t.e, .int .i64 t.n, .bool t.has, .int .i64 t.lo.k, .int .i64 t.lo.n, .string t.lo.s, .int .i64 t.hi.k, .int .i64 t.hi.n, .string t.hi.s] 50))
      clear cT
      generalize w3.alloc (.cells #[.int .i64 t.e, .int .i64 t.n, .bool t.has, .int .i64 t.lo.k, .int .i64 t.lo.n, .string t.lo.s, .int .i64 t.hi.k, .int .i64 t.hi.n, .string t.hi.s] 50) = w4 at *
      generalize w3.heap.size = gD at *
      generalize w2.heap.size = gT at *
      have HB := Lib.hid (Below.refl w4.heap.size w4)
      go_region_held3 (fun w' => (∀ j, w'.cell? ⟨gT, j, none⟩ = (#[.int .i64 t.e, .int .i64 t.n, .bool t.has, .int .i64 t.lo.k, .int .i64 t.lo.n, .string t.lo.s, .int .i64 t.hi.k, .int .i64 t.hi.n, .string t.hi.s] : Array Value)[j]?) ∧ (∀ j, w'.cell? ⟨gD, j, none⟩ = (#[.int .i64 t.e, .int .i64 t.n, .bool t.has, .int .i64 t.lo.k, .int .i64 t.lo.n, .string t.lo.s, .int .i64 t.hi.k, .int .i64 t.hi.n, .string t.hi.s] : Array Value)[j]?)) (first | (with_reducible exact ⟨rowc RT.out, rowc RD.out⟩) | (with_reducible exact ⟨rowc_drew RT.out, rowc_drew RD.out⟩))
        (first
        | (go_at_call 18; (with_reducible refine (HST.out _).mono ?_); rintro e w9 ⟨rfl, hb9⟩; (first | (with_reducible have hbs := drew_first hb9) | (have hbs := hb9)); replace RT := Lib.hid (row_keep hbs RT.out); replace RD := Lib.hid (row_keep hbs RD.out); replace HB := Lib.hid (HB.out.trans (hbs.mono HB.out.size)); clear hb9 hbs))
      all_goals (go_wp2_with fail; go_ret; exact ⟨rfl, Hbw.out.trans (HB.out.mono Hbw.out.size)⟩)
theorem statsTexts_law (a : St) (ha : a.Ok) (s : ByteArray) (hs2 : s.size ≤ maxLen) (w : World) (hL : laidMetH Tryd.prog Rows.statsTextsRow.laid w) :
    Calls Tryd.prog 4 #[.agg (stA a), .string s] w fun e w' => e = .returned (.bool true) ∧ Below w.heap.size w w' := by
  have hL' : laidMetH Tryd.prog fullLaid w := hL
  obtain ⟨adr, hE⟩ := env_of_laid hL'
  by_cases h : 1000 < s.size ∨ 1000 < a.lo.s.size ∨ 1000 < a.hi.s.size
  · exact stx_early a s h w adr hE
  · exact stx_main a ha s (by omega) (by omega) (by omega) w adr hE
end Go.Proofs.YtpbkmfnfcdhhjaaDoor
