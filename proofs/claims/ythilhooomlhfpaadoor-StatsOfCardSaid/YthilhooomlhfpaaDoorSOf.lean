/- The walk of the statement StatsOf. -/
import Derived.Test.YthilhooomlhfpaaDoorCErr
import Derived.Test.YthilhooomlhfpaaDoorStR
import Derived.Test.YthilhooomlhfpaaDoorColArg2
import Derived.Test.YthilhooomlhfpaaDoorMBits
import Derived.Deep.RegionHeld3
namespace Go.Proofs.YthilhooomlhfpaaDoor
set_option linter.unusedVariables false
open Go Go.RowKit Go.ChangeShapes

theorem of_any (f : Lf) (c : Col) (vf vc : Value) (w : World) (adr : Nat → Addr) (hE : ErrsAt w adr [3, 4]) (hf : IsLf w vf f) (hc : IsCol w vc c) (fo : f.Ok) (co : c.Ok) :
    Calls Tryd.prog 14 #[vf, vc] w fun e w' => (∃ u, e = .returned (.tuple #[.agg (stA (ofSt f c)), u]) ∧ IsErr w' adr (colErr f c false) u) ∧ Below w.heap.size w w' := by
  by_cases hn : colErr f c false = .nil
  · have e : ofSt f c = knownSt c := by unfold ofSt; rw [hn]
    rw [hn, e]
    exact (of_nil f c vf vc w adr hE hf hc fo co hn).mono fun e w' ⟨h1, h2⟩ => ⟨⟨_, h1, rfl⟩, h2⟩
  · have e : ofSt f c = St.none := by
      unfold ofSt
      cases h : colErr f c false with
      | nil => exact absurd h hn
      | sent k => rfl
      | fault k q => rfl
    rw [e]
    exact of_err f c vf vc w adr hE hf hc fo co hn
theorem IsErr.pos {w : World} {adr : Nat → Addr} {e : GErr} {v : Value} (h : IsErr w adr e v) (hn : e ≠ .nil) : 0 < e.code := by
  cases e with
  | nil => exact absurd rfl hn
  | sent k => have := h.1; show (0 : Int) < (k : Int); omega
  | fault k q => have := h.1; show (0 : Int) < (k : Int); omega

set_option maxRecDepth 100000 in
set_option maxHeartbeats 8000000 in
theorem sof_any (f : Lf) (c : Col) (vf vc : Value) (w : World) (adr : Nat → Addr) (hE : ErrEnv w adr) (hf : IsLf w vf f) (hc : IsCol w vc c) (fo : f.Ok) (co : c.Ok) (cr : c.Reach) :
    Calls Tryd.prog 3 #[vf, vc] w fun e w' => e = .returned (.bool true) ∧ Below w.heap.size w w' := by
  have HF := Lib.hid (fun (w1 : World) (h : Below w.heap.size w w1) => hf.below h (Nat.le_refl _))
  have HC := Lib.hid (fun (w1 : World) (h : Below w.heap.size w w1) => hc.below h (Nat.le_refl _))
  have H2 := Lib.hid (fun (w1 : World) (h : Below w.heap.size w w1) => two_any w1 adr (hE.errs.sub (by decide) |>.below h))
  have HE := Lib.hid hE
  have HSl := Lib.hid (fun (w1 : World) (h : Below w.heap.size w w1) => slim_any f c vf vc w1 (HF.out w1 h) (HC.out w1 h) fo co cr)
  have HCE := Lib.hid (fun (w1 : World) (h : Below w.heap.size w w1) => cerr_any f c false vf vc w1 (HF.out w1 h) (HC.out w1 h) fo co)
  have HOL := Lib.hid (fun (hp : f.path.length ≤ 100) (w1 : World) (h : Below w.heap.size w w1) => ownLeaf_any f vf w1 (HF.out w1 h) hp)
  have HOC := Lib.hid (fun (w1 : World) (h : Below w.heap.size w w1) => ownCol_any c vc w1 (HC.out w1 h) cr)
  have HOF := Lib.hid (fun (v1 v2 : Value) (w1 : World) (h : Below w.heap.size w w1) (h1 : IsLf w1 v1 f) (h2 : IsCol w1 v2 c) => of_any f c v1 v2 w1 adr ((hE.errs.sub (by decide)).below h) h1 h2 fo co)
  have HSR := Lib.hid (fun (w1 : World) (h : Below w.heap.size w w1) => statsOfR_any c vc w1 (HC.out w1 h) co)
  have HST := Lib.hid (fun (w1 : World) => statsOf_any (knownSt c) w1)
  have HFd := Lib.hid (fun (w1 : World) (x : Value) (h1 : ErrEnv w1 adr) (h2 : IsErr w1 adr (colErr f c false) x) => show Calls Tryd.prog 17 #[x, .agg #[.int .i64 (colErr f c false).code, .int .i64 (colErr f c false).at']] w1 fun r w' => r = .returned (.bool true) ∧ Below w1.heap.size w1 w' from
    (faulted_any (colErr f c false).code (colErr f c false).at' h1 h2).mono fun r w' ⟨h3, h4⟩ => ⟨h3.trans (ret_of (by simp)), h4⟩)
  have HSn : Hid (colErr f c false = .nil → ofSt f c = knownSt c) := Lib.hid (fun hn => by unfold ofSt; rw [hn])
  have HSo : Hid (colErr f c false ≠ .nil → ofSt f c = St.none) := Lib.hid (fun hn => by
    unfold ofSt
    cases h : colErr f c false with
    | nil => exact absurd h hn
    | sent k => rfl
    | fault k q => rfl)
  obtain ⟨p, rfl, hp⟩ := hf
  obtain ⟨a, b, d, rfl, ha, hb, hd⟩ := hc
  clear hE hp ha hb hd fo co cr
  generalize hS : ofSt f c = S at *
  generalize knownSt c = KS at *
  generalize hge : colErr f c false = ge at *
  obtain ⟨ec, hec⟩ : ∃ x, ge.code = x := ⟨_, rfl⟩
  obtain ⟨ep, hep⟩ : ∃ x, ge.at' = x := ⟨_, rfl⟩
  have Hec := Lib.hid hec
  rw [hec, hep] at HCE HFd
  clear hS hge hec hep
  unfold lfA colA at *
  unfold stA at HOF HSR HST
  unfold faultV at HCE
  go_enter Tryd.func3, Tryd.ntmps3
  go_wp2_with fail
  refine (H2.out _ (((Below.refl _ _).alloc (Nat.le_refl _) _).alloc (by simp) _)).mono ?_; rintro e w1 ⟨rfl, hb1⟩
  obtain ⟨rA, rB, hbw, hz⟩ := rows2 hb1
  have RA := Lib.hid rA; have RB := Lib.hid rB; have Hbw := Lib.hid hbw
  have cA := rowc rA; have cB := rowc rB
  clear hb1 rA rB hbw
  go_wp2_with fail
  refine (HSl.out _ Hbw.out).mono ?_; rintro e w2 ⟨⟨b1, rfl, hsl, -⟩, hb2⟩
  replace RA := Lib.hid (row_keep hb2 RA.out); replace RB := Lib.hid (row_keep hb2 RB.out); replace Hbw := Lib.hid (Hbw.out.trans (hb2.mono Hbw.out.size))
  clear hb2 cA cB
  have cA := rowc RA.out; have cB := rowc RB.out
  cases b1 with
  | false =>
    go_wp2_with fail
    go_ret
    exact ⟨rfl, Hbw.out⟩
  | true =>
  replace HOL := Lib.hid (HOL.out (hsl rfl))
  clear hsl
  go_wp2_with fail
  refine (HCE.out _ Hbw.out).mono ?_; rintro e w3 ⟨rfl, hb3⟩
  replace RA := Lib.hid (row_keep hb3 RA.out); replace RB := Lib.hid (row_keep hb3 RB.out); replace Hbw := Lib.hid (Hbw.out.trans (hb3.mono Hbw.out.size))
  clear hb3 cA cB
  have cA := rowc RA.out; have cB := rowc RB.out
  go_upto_region 5 with fail
  have RE := Lib.hid (heap_alloc_new w3 (.cells #[.int .i64 ec, .int .i64 ep] 31))
  replace RA := Lib.hid ((Lib.alloc_old w3 (.cells #[.int .i64 ec, .int .i64 ep] 31) _ (row_lt RA.out)).trans RA.out)
  replace RB := Lib.hid ((Lib.alloc_old w3 (.cells #[.int .i64 ec, .int .i64 ep] 31) _ (row_lt RB.out)).trans RB.out)
  replace Hbw := Lib.hid (Hbw.out.alloc Hbw.out.size (.cells #[.int .i64 ec, .int .i64 ep] 31))
  clear cA cB
  generalize w3.alloc (.cells #[.int .i64 ec, .int .i64 ep] 31) = w4 at *
  generalize w3.heap.size = gE at *
  have cA := rowc RA.out; have cB := rowc RB.out
  go_cut [7, 8] (fun s7 s8 wx => ∃ g : Nat, s7 = .pointer (some ⟨g, 0, none⟩) ∧ wx.heap[g]? = some (.cells #[.int .i64 S.e, .int .i64 S.n, .bool S.has, .int .i64 S.lo.k, .int .i64 S.lo.n, .string S.lo.s, .int .i64 S.hi.k, .int .i64 S.hi.n, .string S.hi.s] 36 (0, 0)) ∧ IsErr wx adr ge s8 ∧ Below w4.heap.size w4 wx)
  case first =>
    have HB := Lib.hid (Below.refl w4.heap.size w4)
    have hl4 := row_lt RB.out
    go_region_held3 (fun w' => (∀ j, w'.cell? ⟨w.heap.size, j, none⟩ = (#[.int .i64 f.id, .int .i64 f.kind, .int .i64 f.mr, .int .i64 f.md, p] : Array Value)[j]?) ∧ (∀ j, w'.cell? ⟨w.heap.size + 1, j, none⟩ = (#[.int .i64 c.id, a, b, d] : Array Value)[j]?))
      (first | (with_reducible exact ⟨rowc RA.out, rowc RB.out⟩) | (with_reducible exact ⟨rowc_drew RA.out, rowc_drew RB.out⟩) | (with_reducible exact ⟨rowc_alloc RA.out _, rowc_alloc RB.out _⟩) | (with_reducible exact ⟨rowc_alloc_drew RA.out _, rowc_alloc_drew RB.out _⟩) | ((with_reducible refine ⟨rowc_set9 RA.out ?_ _ _ _ _ _ _ _ _ _, rowc_set9 RB.out ?_ _ _ _ _ _ _ _ _ _⟩) <;> omega))
      (first
      | (go_at_call 15; (with_reducible refine (HOL.out _ ?_).mono ?_); (focus (first | exact (Hbw.out.trans (HB.out.mono Hbw.out.size)) | exact (Hbw.out.trans (HB.out.mono Hbw.out.size)).drew | exact (Hbw.out.trans (HB.out.mono Hbw.out.size)).alloc (Hbw.out.trans (HB.out.mono Hbw.out.size)).size _ | exact ((Hbw.out.trans (HB.out.mono Hbw.out.size)).alloc (Hbw.out.trans (HB.out.mono Hbw.out.size)).size _).drew)); rintro e w9 ⟨⟨u1, rfl, hu1⟩, hb9⟩; (first | ((with_reducible have hq := rows1 hb9); obtain ⟨rG, hbs, hl⟩ := hq; have cG := rowc rG; have fG := rowf rG; have RG := Lib.hid rG; have hgz := HB.out.size; clear rG hl) | ((with_reducible have hq := rows1d hb9); obtain ⟨rG, hbs, hl⟩ := hq; have cG := rowc rG; have fG := rowf rG; have RG := Lib.hid rG; have hgz := HB.out.size; clear rG hl) | ((with_reducible have hbs := drew_first hb9); try (replace RG := Lib.hid (row_keep hbs RG.out); replace cG := rowc RG.out; replace fG := rowf RG.out)) | (have hbs := hb9; try (replace RG := Lib.hid (row_keep hbs RG.out); replace cG := rowc RG.out; replace fG := rowf RG.out))); have hU1 := hu1; replace RA := Lib.hid (row_keep hbs RA.out); replace RB := Lib.hid (row_keep hbs RB.out); (try (replace HU1 := Lib.hid (HU1.out.below hbs (Nat.le_refl _)))); (try (replace HU2 := Lib.hid (HU2.out.below hbs (Nat.le_refl _)))); replace HB := Lib.hid (HB.out.trans (hbs.mono HB.out.size)); clear hb9 hbs; have HU1 := Lib.hid hU1; clear hu1 hU1)
      | (go_at_call 16; (with_reducible refine (HOC.out _ ?_).mono ?_); (focus (first | exact (Hbw.out.trans (HB.out.mono Hbw.out.size)) | exact (Hbw.out.trans (HB.out.mono Hbw.out.size)).drew | exact (Hbw.out.trans (HB.out.mono Hbw.out.size)).alloc (Hbw.out.trans (HB.out.mono Hbw.out.size)).size _ | exact ((Hbw.out.trans (HB.out.mono Hbw.out.size)).alloc (Hbw.out.trans (HB.out.mono Hbw.out.size)).size _).drew)); rintro e w9 ⟨⟨u2, rfl, hu2⟩, hb9⟩; (first | ((with_reducible have hq := rows1 hb9); obtain ⟨rG, hbs, hl⟩ := hq; have cG := rowc rG; have fG := rowf rG; have RG := Lib.hid rG; have hgz := HB.out.size; clear rG hl) | ((with_reducible have hq := rows1d hb9); obtain ⟨rG, hbs, hl⟩ := hq; have cG := rowc rG; have fG := rowf rG; have RG := Lib.hid rG; have hgz := HB.out.size; clear rG hl) | ((with_reducible have hbs := drew_first hb9); try (replace RG := Lib.hid (row_keep hbs RG.out); replace cG := rowc RG.out; replace fG := rowf RG.out)) | (have hbs := hb9; try (replace RG := Lib.hid (row_keep hbs RG.out); replace cG := rowc RG.out; replace fG := rowf RG.out))); have hU2 := hu2; replace RA := Lib.hid (row_keep hbs RA.out); replace RB := Lib.hid (row_keep hbs RB.out); (try (replace HU1 := Lib.hid (HU1.out.below hbs (Nat.le_refl _)))); (try (replace HU2 := Lib.hid (HU2.out.below hbs (Nat.le_refl _)))); replace HB := Lib.hid (HB.out.trans (hbs.mono HB.out.size)); clear hb9 hbs; have HU2 := Lib.hid hU2; clear hu2 hU2)
      | (go_at_call 14; (with_reducible refine (HOF.out _ _ _ ?_ ?_ ?_).mono ?_); (focus (first | exact (Hbw.out.trans (HB.out.mono Hbw.out.size)) | exact (Hbw.out.trans (HB.out.mono Hbw.out.size)).drew | exact (Hbw.out.trans (HB.out.mono Hbw.out.size)).alloc (Hbw.out.trans (HB.out.mono Hbw.out.size)).size _ | exact ((Hbw.out.trans (HB.out.mono Hbw.out.size)).alloc (Hbw.out.trans (HB.out.mono Hbw.out.size)).size _).drew)); (focus (first | exact HU1.out | exact HU1.out.below (Below.refl _ _).drew (Nat.le_refl _) | exact HU1.out.below ((Below.refl _ _).alloc (Nat.le_refl _) _) (Nat.le_refl _) | exact HU1.out.below ((Below.refl _ _).alloc (Nat.le_refl _) _).drew (Nat.le_refl _))); (focus (first | exact HU2.out | exact HU2.out.below (Below.refl _ _).drew (Nat.le_refl _) | exact HU2.out.below ((Below.refl _ _).alloc (Nat.le_refl _) _) (Nat.le_refl _) | exact HU2.out.below ((Below.refl _ _).alloc (Nat.le_refl _) _).drew (Nat.le_refl _))); rintro e w9 ⟨⟨u8, rfl, hu8⟩, hb9⟩; (first | ((with_reducible have hq := rows1 hb9); obtain ⟨rG, hbs, hl⟩ := hq; have cG := rowc rG; have fG := rowf rG; have RG := Lib.hid rG; have hgz := HB.out.size; clear rG hl) | ((with_reducible have hq := rows1d hb9); obtain ⟨rG, hbs, hl⟩ := hq; have cG := rowc rG; have fG := rowf rG; have RG := Lib.hid rG; have hgz := HB.out.size; clear rG hl) | ((with_reducible have hbs := drew_first hb9); try (replace RG := Lib.hid (row_keep hbs RG.out); replace cG := rowc RG.out; replace fG := rowf RG.out)) | (have hbs := hb9; try (replace RG := Lib.hid (row_keep hbs RG.out); replace cG := rowc RG.out; replace fG := rowf RG.out))); replace RA := Lib.hid (row_keep hbs RA.out); replace RB := Lib.hid (row_keep hbs RB.out); (try (replace HU1 := Lib.hid (HU1.out.below hbs (Nat.le_refl _)))); (try (replace HU2 := Lib.hid (HU2.out.below hbs (Nat.le_refl _)))); replace HB := Lib.hid (HB.out.trans (hbs.mono HB.out.size)); clear hb9 hbs; have HU8 := Lib.hid hu8; clear hu8))
    all_goals (go_wp2_with fail; go_meet)
    all_goals first
      | (refine ⟨_, rfl, ?_, ?_, ?_⟩; (focus (with_reducible exact heap_alloc_new _ _)); (focus (exact HU8.out.below ((Below.refl _ _).alloc (Nat.le_refl _) _))); (focus (with_reducible exact HB.out.alloc HB.out.size _)))
      | (refine ⟨_, rfl, ?_, ?_, ?_⟩; (focus (with_reducible exact row_set9 RG.out rfl _ _ _ _ _ _ _ _ _)); (focus (exact HU8.out.other RG.out (by intro T ad h; cases h) (fun i hi => by rw [heap_setCell_other _ _ _ _ hi, heap_setCell_other _ _ _ _ hi, heap_setCell_other _ _ _ _ hi, heap_setCell_other _ _ _ _ hi, heap_setCell_other _ _ _ _ hi, heap_setCell_other _ _ _ _ hi, heap_setCell_other _ _ _ _ hi, heap_setCell_other _ _ _ _ hi, heap_setCell_other _ _ _ _ hi]))); (focus (with_reducible exact below_set9 HB.out _ hgz _ _ _ _ _ _ _ _ _)))
  case rest =>
    obtain ⟨g, rfl, rG, hu, hbx⟩ := hcut
    replace RA := Lib.hid (row_keep hbx RA.out); replace RB := Lib.hid (row_keep hbx RB.out); replace RE := Lib.hid (row_keep hbx RE.out); have RG := Lib.hid rG; have HU := Lib.hid hu; replace Hbw := Lib.hid (Hbw.out.trans (hbx.mono Hbw.out.size))
    clear cA cB hbx rG
    have cB := rowc RB.out; have cE := rowc RE.out; have cG := rowc RG.out
    by_cases hn : ge = .nil
    · have hS := HSn.out hn
      subst hS
      have hec : ec = 0 := by rw [← Hec.out, hn]; rfl
      subst hec
      rw [hn] at hu
      obtain rfl := (show _ = Value.nilIface from hu)
      clear hu hn
      have he : ∀ wx, (binOp .eql 36 (.agg (stA S)) (.agg (stA S))).run Tryd.prog wx = .ok (.bool true) wx := fun wx => by rw [eql_st, stEq_self]
      unfold stA at he
      obtain ⟨w5, rfl⟩ : ∃ w5 : World, w5 = wc := ⟨_, rfl⟩
      go_upto_region 8 with fail
      have HB := Lib.hid (Below.refl w5.heap.size w5)
      go_region_held3 (fun w' => (∀ j, w'.cell? ⟨w.heap.size + 1, j, none⟩ = (#[.int .i64 c.id, a, b, d] : Array Value)[j]?) ∧ (∀ j, w'.cell? ⟨g, j, none⟩ = (#[.int .i64 S.e, .int .i64 S.n, .bool S.has, .int .i64 S.lo.k, .int .i64 S.lo.n, .string S.lo.s, .int .i64 S.hi.k, .int .i64 S.hi.n, .string S.hi.s] : Array Value)[j]?))
        (first | (with_reducible exact ⟨rowc RB.out, rowc RG.out⟩) | (with_reducible exact ⟨rowc_drew RB.out, rowc_drew RG.out⟩))
        (first
        | (go_at_call 19; (with_reducible refine (HSR.out _ ?_).mono ?_); (focus (first | exact (Hbw.out.trans (HB.out.mono Hbw.out.size)) | exact (Hbw.out.trans (HB.out.mono Hbw.out.size)).drew | exact (Hbw.out.trans (HB.out.mono Hbw.out.size)).alloc (Hbw.out.trans (HB.out.mono Hbw.out.size)).size _ | exact ((Hbw.out.trans (HB.out.mono Hbw.out.size)).alloc (Hbw.out.trans (HB.out.mono Hbw.out.size)).size _).drew)); rintro e w9 ⟨rfl, hb9⟩; (first | (with_reducible have hbs := drew_first hb9) | (have hbs := hb9)); replace RB := Lib.hid (row_keep hbs RB.out); replace RG := Lib.hid (row_keep hbs RG.out); replace HB := Lib.hid (HB.out.trans (hbs.mono HB.out.size)); clear hb9 hbs)
        | (go_at_call 18; (with_reducible refine (HST.out _).mono ?_); rintro e w9 ⟨rfl, hb9⟩; (first | (with_reducible have hbs := drew_first hb9) | (have hbs := hb9)); replace RB := Lib.hid (row_keep hbs RB.out); replace RG := Lib.hid (row_keep hbs RG.out); replace HB := Lib.hid (HB.out.trans (hbs.mono HB.out.size)); clear hb9 hbs))
      all_goals (go_wp2_with fail; go_ret; exact ⟨rfl, Hbw.out.trans (HB.out.mono Hbw.out.size)⟩)
    · have hS := HSo.out hn
      subst hS
      have hpos : 0 < ec := by rw [← Hec.out]; exact hu.pos hn
      have he : ∀ wx, (binOp .eql 36 (.agg (stA St.none)) (.agg (stA St.none))).run Tryd.prog wx = .ok (.bool true) wx := fun wx => by rw [eql_st, stEq_self]
      simp only [stA, St.none, zv] at he
      clear hu hn
      go_wp2_with fail
      refine (HFd.out _ _ (HE.out.below Hbw.out) HU.out).mono ?_; rintro e w6 ⟨rfl, hb6⟩
      have rG6 := row_keep hb6 RG.out
      simp only [St.none, zv] at rG6
      have Hb6 := Lib.hid (Hbw.out.trans (hb6.mono Hbw.out.size))
      clear cB cE cG hb6
      have cG := rowc rG6
      clear rG6
      go_wp2_with fail
      go_ret
      exact ⟨rfl, Hb6.out⟩

theorem statsOf_law {w : World} (vf : Value) (f : Lf) (hf : IsLf w vf f) (fo : f.Ok) (vc : Value) (c : Col) (hc : IsCol w vc c) (co : c.Ok) (cr : c.Reach) (hL : laidMetH Tryd.prog Rows.statsOfRow.laid w) :
    Calls Tryd.prog 3 #[vf, vc] w fun e w' => e = .returned (.bool true) ∧ Below w.heap.size w w' := by
  have hL' : laidMetH Tryd.prog fullLaid w := hL
  obtain ⟨adr, hE⟩ := env_of_laid hL'
  exact sof_any f c vf vc w adr hE hf hc fo co cr
end Go.Proofs.YthilhooomlhfpaaDoor
