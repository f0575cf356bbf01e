/- The walk of the statement PageWrites. -/
import Derived.Test.YtpbkmfnfcdhhjaaGreatDoorPg5
import Derived.Test.YtpbkmfnfcdhhjaaGreatDoorPg3
import Derived.Test.YtpbkmfnfcdhhjaaGreatDoorCErr
import Derived.Test.YtpbkmfnfcdhhjaaGreatDoorColArg2
import Derived.Deep.RegionHeld3
namespace Go.Proofs.YtpbkmfnfcdhhjaaGreatDoor
set_option linter.unusedVariables false
open Go Go.RowKit Go.ChangeShapes

theorem IsErr.pos' {w : World} {adr : Nat → Addr} {e : GErr} {v : Value} (h : IsErr w adr e v) (hn : e ≠ .nil) : 0 < e.code := by
  cases e with
  | nil => exact absurd rfl hn
  | sent k => have := h.1; show (0 : Int) < (k : Int); omega
  | fault k q => have := h.1; show (0 : Int) < (k : Int); omega
theorem colErr_pos {f : Lf} {c : Col} {free : Bool} (h : colErr f c free ≠ .nil) : 0 < (colErr f c free).code := by
  unfold colErr at h ⊢
  split
  · rename_i hs
    rw [if_pos hs] at h
    split
    · rename_i hb; rw [hb] at h; exact absurd rfl h
    · show (0 : Int) < ((4 : Nat) : Int); omega
  · show (0 : Int) < ((3 : Nat) : Int); omega

set_option maxRecDepth 100000 in
set_option maxHeartbeats 16000000 in
theorem pw_bad (f : Lf) (c : Col) (vf vc : Value) (w : World) (adr : Nat → Addr) (hE : ErrEnv w adr) (hf : IsLf w vf f) (hc : IsCol w vc c) (fo : f.Ok) (co : c.Ok) (cr : c.Reach) (hn : colErr f c false ≠ .nil) :
    Calls Tryz.prog 3 #[vf, vc] w fun e w' => e = .returned (.bool true) ∧ Below w.heap.size w w' := by
  have HF := Lib.hid (fun (w1 : World) (h : Below w.heap.size w w1) => hf.below h (Nat.le_refl _))
  have HC := Lib.hid (fun (w1 : World) (h : Below w.heap.size w w1) => hc.below h (Nat.le_refl _))
  have H2 := Lib.hid (fun (w1 : World) (h : Below w.heap.size w w1) => byte80_any w1 adr (hE.errs.sub (by decide) |>.below h))
  have HE := Lib.hid hE
  have HSl := Lib.hid (fun (w1 : World) (h : Below w.heap.size w w1) => slim_any f c vf vc w1 (HF.out w1 h) (HC.out w1 h) fo co cr)
  have HRi := Lib.hid (fun (w1 : World) (h : Below w.heap.size w w1) => rightP_any f vf w1 (HF.out w1 h))
  have HCE := Lib.hid (fun (w1 : World) (h : Below w.heap.size w w1) => cerr_any f c false vf vc w1 (HF.out w1 h) (HC.out w1 h) fo co)
  have HOL := Lib.hid (fun (hp : f.path.length ≤ 100) (w1 : World) (h : Below w.heap.size w w1) => ownLeaf_any f vf w1 (HF.out w1 h) hp)
  have HOC := Lib.hid (fun (w1 : World) (h : Below w.heap.size w w1) => ownCol_cap c vc w1 (HC.out w1 h) cr)
  have HOW := Lib.hid (fun (v1 v2 : Value) (w1 : World) (h : Below w.heap.size w w1) (h1 : IsLf w1 v1 f) (h2 : IsCol w1 v2 c) (_ : RoomCol v2) => write_bad f c v1 v2 w1 adr ((hE.errs.sub (by decide)).below h) h1 h2 fo co hn)
  have HFd := Lib.hid (fun (w1 : World) (x : Value) (h1 : ErrEnv w1 adr) (h2 : IsErr w1 adr (colErr f c false) x) => show Calls Tryz.prog 17 #[x, .agg #[.int .i64 ((colErr f c false)).code, .int .i64 ((colErr f c false)).at']] w1 fun r w' => r = .returned (.bool true) ∧ Below w1.heap.size w1 w' from
    (faulted_any ((colErr f c false)).code ((colErr f c false)).at' h1 h2).mono fun r w' ⟨h3, h4⟩ => ⟨h3.trans (ret_of (by simp)), h4⟩)
  have hpos := colErr_pos hn
  obtain ⟨p, rfl, hp⟩ := hf
  obtain ⟨a, b, d, rfl, ha, hb, hd⟩ := hc
  clear hE hp ha hb hd fo co cr hn
  generalize hge : colErr f c false = ge at *
  obtain ⟨ec, hec⟩ : ∃ x, ge.code = x := ⟨_, rfl⟩
  obtain ⟨ep, hep⟩ : ∃ x, ge.at' = x := ⟨_, rfl⟩
  rw [hec, hep] at HCE HFd
  rw [hec] at hpos
  have he0 : (ec == 0) = false := by rw [beq_eq_false_iff_ne]; omega
  clear hge hec hep
  generalize rightP f = rp at *
  unfold lfA colA at *
  unfold faultV at HCE
  go_enter Tryz.func3, Tryz.ntmps3
  go_wp2_with fail
  refine (H2.out _ (((Below.refl _ _).alloc (Nat.le_refl _) _).alloc (by simp) _)).mono ?_; rintro e w1 ⟨rfl, hb1⟩
  obtain ⟨rA, rB, hbw, hz⟩ := rows2 hb1
  have RA := Lib.hid rA; have RB := Lib.hid rB; have Hbw := Lib.hid hbw
  have cA := rowc rA; have cB := rowc rB
  clear hb1 rA rB hbw
  go_wp2_with fail
  refine (HSl.out _ Hbw.out).mono ?_; rintro e w2 ⟨⟨b1, rfl, hsl, hsl2⟩, hb2⟩
  replace RA := Lib.hid (row_keep hb2 RA.out); replace RB := Lib.hid (row_keep hb2 RB.out); replace Hbw := Lib.hid (Hbw.out.trans (hb2.mono Hbw.out.size))
  clear hb2 cA cB
  have cA := rowc RA.out; have cB := rowc RB.out
  cases b1 with
  | false =>
    go_wp2_with fail
    go_ret
    exact ⟨rfl, Hbw.out⟩
  | true =>
  replace HOL := Lib.hid (HOL.out (hsl rfl))
  have HS2 := Lib.hid hsl2
  clear hsl hsl2
  go_wp2_with fail
  refine (HRi.out _ Hbw.out).mono ?_; rintro e w2b ⟨rfl, hb2⟩
  replace RA := Lib.hid (row_keep hb2 RA.out); replace RB := Lib.hid (row_keep hb2 RB.out); replace Hbw := Lib.hid (Hbw.out.trans (hb2.mono Hbw.out.size))
  clear hb2 cA cB
  have cA := rowc RA.out; have cB := rowc RB.out
  cases rp with
  | false =>
    go_wp2_with fail
    go_ret
    exact ⟨rfl, Hbw.out⟩
  | true =>
  go_wp2_with fail
  refine (HCE.out _ Hbw.out).mono ?_; rintro e w3 ⟨rfl, hb3⟩
  replace RA := Lib.hid (row_keep hb3 RA.out); replace RB := Lib.hid (row_keep hb3 RB.out); replace Hbw := Lib.hid (Hbw.out.trans (hb3.mono Hbw.out.size))
  clear hb3 cA cB
  have cA := rowc RA.out; have cB := rowc RB.out
  have hgE2 : w.heap.size + 1 < w3.heap.size := row_lt RB.out
  go_upto_region 5 with fail
  have RE := Lib.hid (heap_alloc_new w3 (.cells #[.int .i64 ec, .int .i64 ep] 32))
  replace RA := Lib.hid ((Lib.alloc_old w3 (.cells #[.int .i64 ec, .int .i64 ep] 32) _ (row_lt RA.out)).trans RA.out)
  replace RB := Lib.hid ((Lib.alloc_old w3 (.cells #[.int .i64 ec, .int .i64 ep] 32) _ (row_lt RB.out)).trans RB.out)
  replace Hbw := Lib.hid (Hbw.out.alloc Hbw.out.size (.cells #[.int .i64 ec, .int .i64 ep] 32))
  clear cA cB
  have hgE := RE.out
  generalize w3.alloc (.cells #[.int .i64 ec, .int .i64 ep] 32) = w4 at *
  generalize w3.heap.size = gE at *
  clear hgE
  have cA := rowc RA.out; have cB := rowc RB.out; have cE := rowc RE.out
  go_upto_region 7 with fail
  obtain ⟨wA, hwA⟩ : ∃ x : World, x = w4 := ⟨w4, rfl⟩
  go_cut [7, 8] (fun s7 s8 wx => s7 = .string ⟨#[]⟩ ∧ IsErr wx adr ge s8 ∧ Below w4.heap.size w4 wx)
  case first =>
    clear hwA
    have HB := Lib.hid (Below.refl w4.heap.size w4)
    go_region_held3 (fun w' => (∀ j, w'.cell? ⟨w.heap.size, j, none⟩ = (#[.int .i64 f.id, .int .i64 f.kind, .int .i64 f.mr, .int .i64 f.md, p] : Array Value)[j]?) ∧ (∀ j, w'.cell? ⟨w.heap.size + 1, j, none⟩ = (#[.int .i64 c.id, a, b, d] : Array Value)[j]?)) (first | (with_reducible exact ⟨rowc RA.out, rowc RB.out⟩) | (with_reducible exact ⟨rowc_drew RA.out, rowc_drew RB.out⟩) | (with_reducible exact ⟨rowc_alloc RA.out _, rowc_alloc RB.out _⟩) | (with_reducible exact ⟨rowc_alloc_drew RA.out _, rowc_alloc_drew RB.out _⟩))
      (first
      | (go_at_call 15; (with_reducible refine (HOL.out _ ?_).mono ?_); (focus (first | (with_reducible exact (Hbw.out.trans (HB.out.mono Hbw.out.size))) | (with_reducible exact (Hbw.out.trans (HB.out.mono Hbw.out.size)).drew) | (with_reducible exact (Hbw.out.trans (HB.out.mono Hbw.out.size)).alloc (Hbw.out.trans (HB.out.mono Hbw.out.size)).size _) | (with_reducible exact ((Hbw.out.trans (HB.out.mono Hbw.out.size)).alloc (Hbw.out.trans (HB.out.mono Hbw.out.size)).size _).drew))); rintro e w9 ⟨⟨u1, rfl, hu1⟩, hb9⟩; (first | (with_reducible have hbs := drew_first hb9) | (have hbs := hb9)); replace RA := Lib.hid (row_keep hbs RA.out); replace RB := Lib.hid (row_keep hbs RB.out); (try (replace HU1 := Lib.hid (HU1.out.below hbs (Nat.le_refl _)))); (try (replace HU2 := Lib.hid (HU2.out.below hbs (Nat.le_refl _)))); replace RE := Lib.hid (row_keep hbs RE.out); replace HB := Lib.hid (HB.out.trans (hbs.mono HB.out.size)); clear hb9 hbs; have HU1 := Lib.hid hu1; clear hu1)
      | (go_at_call 16; (with_reducible refine (HOC.out _ ?_).mono ?_); (focus (first | (with_reducible exact (Hbw.out.trans (HB.out.mono Hbw.out.size))) | (with_reducible exact (Hbw.out.trans (HB.out.mono Hbw.out.size)).drew) | (with_reducible exact (Hbw.out.trans (HB.out.mono Hbw.out.size)).alloc (Hbw.out.trans (HB.out.mono Hbw.out.size)).size _) | (with_reducible exact ((Hbw.out.trans (HB.out.mono Hbw.out.size)).alloc (Hbw.out.trans (HB.out.mono Hbw.out.size)).size _).drew))); rintro e w9 ⟨⟨u2, rfl, hu2, hr2⟩, hb9⟩; (first | (with_reducible have hbs := drew_first hb9) | (have hbs := hb9)); replace RA := Lib.hid (row_keep hbs RA.out); replace RB := Lib.hid (row_keep hbs RB.out); (try (replace HU1 := Lib.hid (HU1.out.below hbs (Nat.le_refl _)))); (try (replace HU2 := Lib.hid (HU2.out.below hbs (Nat.le_refl _)))); replace RE := Lib.hid (row_keep hbs RE.out); replace HB := Lib.hid (HB.out.trans (hbs.mono HB.out.size)); clear hb9 hbs; have HU2 := Lib.hid hu2; have HRm := Lib.hid hr2; clear hu2 hr2)
      | (go_at_call 14; (with_reducible refine (HOW.out _ _ _ ?_ ?_ ?_ HRm.out).mono ?_); (focus (first | (with_reducible exact (Hbw.out.trans (HB.out.mono Hbw.out.size))) | (with_reducible exact (Hbw.out.trans (HB.out.mono Hbw.out.size)).drew) | (with_reducible exact (Hbw.out.trans (HB.out.mono Hbw.out.size)).alloc (Hbw.out.trans (HB.out.mono Hbw.out.size)).size _) | (with_reducible exact ((Hbw.out.trans (HB.out.mono Hbw.out.size)).alloc (Hbw.out.trans (HB.out.mono Hbw.out.size)).size _).drew))); (focus (first | exact HU1.out | exact HU1.out.below (Below.refl _ _).drew (Nat.le_refl _))); (focus (first | exact HU2.out | exact HU2.out.below (Below.refl _ _).drew (Nat.le_refl _))); rintro e w9 ⟨⟨u8, rfl, hu8⟩, hb9⟩; (first | (with_reducible have hbs := drew_first hb9) | (have hbs := hb9)); replace RA := Lib.hid (row_keep hbs RA.out); replace RB := Lib.hid (row_keep hbs RB.out); (try (replace HU1 := Lib.hid (HU1.out.below hbs (Nat.le_refl _)))); (try (replace HU2 := Lib.hid (HU2.out.below hbs (Nat.le_refl _)))); replace RE := Lib.hid (row_keep hbs RE.out); replace HB := Lib.hid (HB.out.trans (hbs.mono HB.out.size)); clear hb9 hbs; have HU8 := Lib.hid hu8; clear hu8))
    all_goals (go_wp2_with fail; go_meet)
    all_goals (exact ⟨rfl, HU8.out, HB.out⟩)
  case rest =>
  obtain ⟨rfl, hu, hbx⟩ := hcut
  replace RE := Lib.hid (row_keep hbx RE.out); have HU := Lib.hid hu; replace Hbw := Lib.hid (Hbw.out.trans (hbx.mono Hbw.out.size))
  clear cA cB cE hbx hu hwA
  have cE := rowc RE.out
  go_wp2_with fail
  refine (HFd.out _ _ (HE.out.below Hbw.out) HU.out).mono ?_; rintro e w6 ⟨rfl, hb6⟩
  replace Hbw := Lib.hid (Hbw.out.trans (hb6.mono Hbw.out.size))
  clear hb6
  go_wp2_with fail
  go_ret
  exact ⟨rfl, Hbw.out⟩

set_option maxRecDepth 100000 in
set_option maxHeartbeats 16000000 in
theorem pw_none (f : Lf) (c : Col) (vf vc : Value) (w : World) (adr : Nat → Addr) (hE : ErrEnv w adr) (hf : IsLf w vf f) (hc : IsCol w vc c) (fo : f.Ok) (co : c.Ok) (cr : c.Reach) (hn : colErr f c false = .nil) (h0 : c.rep = []) :
    Calls Tryz.prog 3 #[vf, vc] w fun e w' => e = .returned (.bool true) ∧ Below w.heap.size w w' := by
  have HF := Lib.hid (fun (w1 : World) (h : Below w.heap.size w w1) => hf.below h (Nat.le_refl _))
  have HC := Lib.hid (fun (w1 : World) (h : Below w.heap.size w w1) => hc.below h (Nat.le_refl _))
  have H2 := Lib.hid (fun (w1 : World) (h : Below w.heap.size w w1) => byte80_any w1 adr (hE.errs.sub (by decide) |>.below h))
  have HE := Lib.hid hE
  have HSl := Lib.hid (fun (w1 : World) (h : Below w.heap.size w w1) => slim_any f c vf vc w1 (HF.out w1 h) (HC.out w1 h) fo co cr)
  have HRi := Lib.hid (fun (w1 : World) (h : Below w.heap.size w w1) => rightP_any f vf w1 (HF.out w1 h))
  have HCE := Lib.hid (fun (w1 : World) (h : Below w.heap.size w w1) => cerr_any f c false vf vc w1 (HF.out w1 h) (HC.out w1 h) fo co)
  have HOL := Lib.hid (fun (hp : f.path.length ≤ 100) (w1 : World) (h : Below w.heap.size w w1) => ownLeaf_any f vf w1 (HF.out w1 h) hp)
  have HOC := Lib.hid (fun (w1 : World) (h : Below w.heap.size w w1) => ownCol_cap c vc w1 (HC.out w1 h) cr)
  have HOW := Lib.hid (fun (v1 v2 : Value) (w1 : World) (h : Below w.heap.size w w1) (h1 : IsLf w1 v1 f) (h2 : IsCol w1 v2 c) (_ : RoomCol v2) => write_none f c v1 v2 w1 adr ((hE.errs.sub (by decide)).below h) h1 h2 fo co hn h0)
  have HFd := Lib.hid (fun (w1 : World) (h1 : ErrEnv w1 adr) => show Calls Tryz.prog 17 #[.iface 247 (.pointer (some (adr 3))), .agg #[.int .i64 3, .int .i64 (-1)]] w1 fun r w' => r = .returned (.bool true) ∧ Below w1.heap.size w1 w' from
    (faulted_any (e := .sent 3) 3 (-1) h1 ⟨by decide, by decide, rfl⟩).mono fun r w' ⟨h3, h4⟩ => ⟨h3.trans (ret_of (by rfl)), h4⟩)
  have HBa := Lib.hid (fun w1 => bare_any 3 w1)
  obtain ⟨p, rfl, hp⟩ := hf
  obtain ⟨a, b, d, rfl, ha, hb, hd⟩ := hc
  obtain ⟨a1, q1, rfl⟩ := ha.form
  rw [hn] at HCE
  have hp0 : ((c.rep.length : Int) == 0) = true := by rw [h0]; rfl
  clear hE hp ha hb hd fo co cr hn h0
  obtain ⟨ep, hep⟩ : ∃ x, GErr.nil.at' = x := ⟨_, rfl⟩
  rw [hep, show GErr.nil.code = 0 from rfl] at HCE
  clear hep
  unfold faultV at HBa
  generalize rightP f = rp at *
  unfold lfA colA at *
  unfold faultV at HCE
  go_enter Tryz.func3, Tryz.ntmps3
  go_wp2_with fail
  refine (H2.out _ (((Below.refl _ _).alloc (Nat.le_refl _) _).alloc (by simp) _)).mono ?_; rintro e w1 ⟨rfl, hb1⟩
  obtain ⟨rA, rB, hbw, hz⟩ := rows2 hb1
  have RA := Lib.hid rA; have RB := Lib.hid rB; have Hbw := Lib.hid hbw
  have cA := rowc rA; have cB := rowc rB
  clear hb1 rA rB hbw
  go_wp2_with fail
  refine (HSl.out _ Hbw.out).mono ?_; rintro e w2 ⟨⟨b1, rfl, hsl, hsl2⟩, hb2⟩
  replace RA := Lib.hid (row_keep hb2 RA.out); replace RB := Lib.hid (row_keep hb2 RB.out); replace Hbw := Lib.hid (Hbw.out.trans (hb2.mono Hbw.out.size))
  clear hb2 cA cB
  have cA := rowc RA.out; have cB := rowc RB.out
  cases b1 with
  | false =>
    go_wp2_with fail
    go_ret
    exact ⟨rfl, Hbw.out⟩
  | true =>
  replace HOL := Lib.hid (HOL.out (hsl rfl))
  have HS2 := Lib.hid hsl2
  clear hsl hsl2
  go_wp2_with fail
  refine (HRi.out _ Hbw.out).mono ?_; rintro e w2b ⟨rfl, hb2⟩
  replace RA := Lib.hid (row_keep hb2 RA.out); replace RB := Lib.hid (row_keep hb2 RB.out); replace Hbw := Lib.hid (Hbw.out.trans (hb2.mono Hbw.out.size))
  clear hb2 cA cB
  have cA := rowc RA.out; have cB := rowc RB.out
  cases rp with
  | false =>
    go_wp2_with fail
    go_ret
    exact ⟨rfl, Hbw.out⟩
  | true =>
  go_wp2_with fail
  refine (HCE.out _ Hbw.out).mono ?_; rintro e w3 ⟨rfl, hb3⟩
  replace RA := Lib.hid (row_keep hb3 RA.out); replace RB := Lib.hid (row_keep hb3 RB.out); replace Hbw := Lib.hid (Hbw.out.trans (hb3.mono Hbw.out.size))
  clear hb3 cA cB
  have cA := rowc RA.out; have cB := rowc RB.out
  have hgE2 : w.heap.size + 1 < w3.heap.size := row_lt RB.out
  go_upto_region 5 with fail
  have RE := Lib.hid (heap_alloc_new w3 (.cells #[.int .i64 0, .int .i64 ep] 32))
  replace RA := Lib.hid ((Lib.alloc_old w3 (.cells #[.int .i64 0, .int .i64 ep] 32) _ (row_lt RA.out)).trans RA.out)
  replace RB := Lib.hid ((Lib.alloc_old w3 (.cells #[.int .i64 0, .int .i64 ep] 32) _ (row_lt RB.out)).trans RB.out)
  replace Hbw := Lib.hid (Hbw.out.alloc Hbw.out.size (.cells #[.int .i64 0, .int .i64 ep] 32))
  clear cA cB
  have hgE := RE.out
  generalize w3.alloc (.cells #[.int .i64 0, .int .i64 ep] 32) = w4 at *
  generalize w3.heap.size = gE at *
  clear hgE
  have cA := rowc RA.out; have cB := rowc RB.out; have cE := rowc RE.out
  have fE := rowf RE.out
  go_wp2_with fail
  refine (HBa.out _).mono ?_; rintro e w5 ⟨rfl, hb5⟩
  replace RA := Lib.hid (row_keep hb5 RA.out); replace RB := Lib.hid (row_keep hb5 RB.out); replace RE := Lib.hid (row_keep hb5 RE.out); replace Hbw := Lib.hid (Hbw.out.trans (hb5.mono Hbw.out.size))
  clear hb5 cA cB cE fE
  have cA := rowc RA.out; have cB := rowc RB.out; have cE := rowc RE.out; have fE := rowf RE.out
  go_upto_region 7 with fail
  obtain ⟨p1, p2, p3, p4⟩ := store_cell_row (j := 0) (v := .int .i64 3) RE.out
  obtain ⟨q1', q2, q3, q4⟩ := store_cell_row (j := 1) (v := .int .i64 (-1)) p1
  have hgA : w.heap.size ≠ gE := by omega
  have hgB : w.heap.size + 1 ≠ gE := by omega
  replace RA := Lib.hid ((q2 _ hgA).trans ((p2 _ hgA).trans RA.out)); replace RB := Lib.hid ((q2 _ hgB).trans ((p2 _ hgB).trans RB.out))
  replace RE := Lib.hid (q1'.trans (show _ = some (.cells #[.int .i64 3, .int .i64 (-1)] 32 (0, 0)) from rfl))
  replace Hbw := Lib.hid (Hbw.out.trans ((p3.trans q3).mono (by omega)))
  clear p1 p2 p3 p4 q1' q2 q3 q4 cA cB cE fE
  generalize (w5.setCell ⟨gE, 0, none⟩ (.int .i64 3)).setCell ⟨gE, 1, none⟩ (.int .i64 (-1)) = w6 at *
  have cA := rowc RA.out; have cB := rowc RB.out; have cE := rowc RE.out
  obtain ⟨wA, hwA⟩ : ∃ x : World, x = w6 := ⟨w6, rfl⟩
  go_cut [7, 8] (fun s7 s8 wx => s7 = .string ⟨#[]⟩ ∧ s8 = .iface 247 (.pointer (some (adr 3))) ∧ Below w6.heap.size w6 wx)
  case first =>
    clear hwA
    have HB := Lib.hid (Below.refl w6.heap.size w6)
    go_region_held3 (fun w' => (∀ j, w'.cell? ⟨w.heap.size, j, none⟩ = (#[.int .i64 f.id, .int .i64 f.kind, .int .i64 f.mr, .int .i64 f.md, p] : Array Value)[j]?) ∧ (∀ j, w'.cell? ⟨w.heap.size + 1, j, none⟩ = (#[.int .i64 c.id, .slice a1 c.rep.length q1, b, d] : Array Value)[j]?)) (first | (with_reducible exact ⟨rowc RA.out, rowc RB.out⟩) | (with_reducible exact ⟨rowc_drew RA.out, rowc_drew RB.out⟩) | (with_reducible exact ⟨rowc_alloc RA.out _, rowc_alloc RB.out _⟩) | (with_reducible exact ⟨rowc_alloc_drew RA.out _, rowc_alloc_drew RB.out _⟩))
      (first
      | (go_at_call 15; (with_reducible refine (HOL.out _ ?_).mono ?_); (focus (first | (with_reducible exact (Hbw.out.trans (HB.out.mono Hbw.out.size))) | (with_reducible exact (Hbw.out.trans (HB.out.mono Hbw.out.size)).drew) | (with_reducible exact (Hbw.out.trans (HB.out.mono Hbw.out.size)).alloc (Hbw.out.trans (HB.out.mono Hbw.out.size)).size _) | (with_reducible exact ((Hbw.out.trans (HB.out.mono Hbw.out.size)).alloc (Hbw.out.trans (HB.out.mono Hbw.out.size)).size _).drew))); rintro e w9 ⟨⟨u1, rfl, hu1⟩, hb9⟩; (first | (with_reducible have hbs := drew_first hb9) | (have hbs := hb9)); replace RA := Lib.hid (row_keep hbs RA.out); replace RB := Lib.hid (row_keep hbs RB.out); (try (replace HU1 := Lib.hid (HU1.out.below hbs (Nat.le_refl _)))); (try (replace HU2 := Lib.hid (HU2.out.below hbs (Nat.le_refl _)))); replace RE := Lib.hid (row_keep hbs RE.out); replace HB := Lib.hid (HB.out.trans (hbs.mono HB.out.size)); clear hb9 hbs; have HU1 := Lib.hid hu1; clear hu1)
      | (go_at_call 16; (with_reducible refine (HOC.out _ ?_).mono ?_); (focus (first | (with_reducible exact (Hbw.out.trans (HB.out.mono Hbw.out.size))) | (with_reducible exact (Hbw.out.trans (HB.out.mono Hbw.out.size)).drew) | (with_reducible exact (Hbw.out.trans (HB.out.mono Hbw.out.size)).alloc (Hbw.out.trans (HB.out.mono Hbw.out.size)).size _) | (with_reducible exact ((Hbw.out.trans (HB.out.mono Hbw.out.size)).alloc (Hbw.out.trans (HB.out.mono Hbw.out.size)).size _).drew))); rintro e w9 ⟨⟨u2, rfl, hu2, hr2⟩, hb9⟩; (first | (with_reducible have hbs := drew_first hb9) | (have hbs := hb9)); replace RA := Lib.hid (row_keep hbs RA.out); replace RB := Lib.hid (row_keep hbs RB.out); (try (replace HU1 := Lib.hid (HU1.out.below hbs (Nat.le_refl _)))); (try (replace HU2 := Lib.hid (HU2.out.below hbs (Nat.le_refl _)))); replace RE := Lib.hid (row_keep hbs RE.out); replace HB := Lib.hid (HB.out.trans (hbs.mono HB.out.size)); clear hb9 hbs; have HU2 := Lib.hid hu2; have HRm := Lib.hid hr2; clear hu2 hr2)
      | (go_at_call 14; (with_reducible refine (HOW.out _ _ _ ?_ ?_ ?_ HRm.out).mono ?_); (focus (first | (with_reducible exact (Hbw.out.trans (HB.out.mono Hbw.out.size))) | (with_reducible exact (Hbw.out.trans (HB.out.mono Hbw.out.size)).drew) | (with_reducible exact (Hbw.out.trans (HB.out.mono Hbw.out.size)).alloc (Hbw.out.trans (HB.out.mono Hbw.out.size)).size _) | (with_reducible exact ((Hbw.out.trans (HB.out.mono Hbw.out.size)).alloc (Hbw.out.trans (HB.out.mono Hbw.out.size)).size _).drew))); (focus (first | exact HU1.out | exact HU1.out.below (Below.refl _ _).drew (Nat.le_refl _))); (focus (first | exact HU2.out | exact HU2.out.below (Below.refl _ _).drew (Nat.le_refl _))); rintro e w9 ⟨rfl, hb9⟩; (first | (with_reducible have hbs := drew_first hb9) | (have hbs := hb9)); replace RA := Lib.hid (row_keep hbs RA.out); replace RB := Lib.hid (row_keep hbs RB.out); (try (replace HU1 := Lib.hid (HU1.out.below hbs (Nat.le_refl _)))); (try (replace HU2 := Lib.hid (HU2.out.below hbs (Nat.le_refl _)))); replace RE := Lib.hid (row_keep hbs RE.out); replace HB := Lib.hid (HB.out.trans (hbs.mono HB.out.size)); clear hb9 hbs))
    all_goals (go_wp2_with fail; go_meet)
    all_goals (exact ⟨rfl, rfl, HB.out⟩)
  case rest =>
  obtain ⟨rfl, rfl, hbx⟩ := hcut
  replace RE := Lib.hid (row_keep hbx RE.out); replace Hbw := Lib.hid (Hbw.out.trans (hbx.mono Hbw.out.size))
  clear cA cB cE hbx hwA
  have cE := rowc RE.out
  go_wp2_with fail
  refine (HFd.out _ (HE.out.below Hbw.out)).mono ?_; rintro e w7 ⟨rfl, hb6⟩
  replace Hbw := Lib.hid (Hbw.out.trans (hb6.mono Hbw.out.size))
  clear hb6
  go_wp2_with fail
  go_ret
  exact ⟨rfl, Hbw.out⟩

set_option maxRecDepth 100000 in
set_option maxHeartbeats 16000000 in
theorem pw_ok (f : Lf) (c : Col) (vf vc : Value) (w : World) (adr : Nat → Addr) (hE : ErrEnv w adr) (hf : IsLf w vf f) (hc : IsCol w vc c) (fo : f.Ok) (co : c.Ok) (cr : c.Reach) (hn : colErr f c false = .nil) (h0 : c.rep ≠ []) :
    Calls Tryz.prog 3 #[vf, vc] w fun e w' => e = .returned (.bool true) ∧ Below w.heap.size w w' := by
  have HF := Lib.hid (fun (w1 : World) (h : Below w.heap.size w w1) => hf.below h (Nat.le_refl _))
  have HC := Lib.hid (fun (w1 : World) (h : Below w.heap.size w w1) => hc.below h (Nat.le_refl _))
  have H2 := Lib.hid (fun (w1 : World) (h : Below w.heap.size w w1) => byte80_any w1 adr (hE.errs.sub (by decide) |>.below h))
  have HE := Lib.hid hE
  have HSl := Lib.hid (fun (w1 : World) (h : Below w.heap.size w w1) => slim_any f c vf vc w1 (HF.out w1 h) (HC.out w1 h) fo co cr)
  have HRi := Lib.hid (fun (w1 : World) (h : Below w.heap.size w w1) => rightP_any f vf w1 (HF.out w1 h))
  have HCE := Lib.hid (fun (w1 : World) (h : Below w.heap.size w w1) => cerr_any f c false vf vc w1 (HF.out w1 h) (HC.out w1 h) fo co)
  have HOL := Lib.hid (fun (hp : f.path.length ≤ 100) (w1 : World) (h : Below w.heap.size w w1) => ownLeaf_any f vf w1 (HF.out w1 h) hp)
  have HOC := Lib.hid (fun (w1 : World) (h : Below w.heap.size w w1) => ownCol_cap c vc w1 (HC.out w1 h) cr)
  have HOW0 := Lib.hid (fun (hl : c.rep.length ≤ 1000) (v1 v2 : Value) (w1 : World) (h : Below w.heap.size w w1) (h1 : IsLf w1 v1 f) (h2 : IsCol w1 v2 c) (hr : RoomCol v2) => write_ok f c v1 v2 w1 adr ((hE.errs.sub (by decide)).below h) h1 h2 hr fo co hn h0 hl)
  have HPo0 := Lib.hid (fun (hl : c.rep.length ≤ 1000) (w1 : World) (h : Below w.heap.size w w1) => pageOf_any f c vf vc w1 (HF.out w1 h) (HC.out w1 h) fo co (right_of hn).1 hl)
  have HLn := Lib.hid (show slimN c ≤ 2000 → c.rep.length ≤ 1000 from fun h => by have := (right_of hn).1.len; unfold slimN at h; omega)
  have HVs := Lib.hid (show ∀ x ∈ c.vals, x.s.size ≤ 100000 from fun x hx => by have := okP_size ((right_of hn).1.vals x hx); omega)
  have hpos : 0 < c.rep.length := List.length_pos_iff.2 h0
  obtain ⟨p, rfl, hp⟩ := hf
  obtain ⟨a, b, d, rfl, ha, hb, hd⟩ := hc
  obtain ⟨a1, q1, rfl⟩ := ha.form
  rw [hn] at HCE
  have hp0 : ((c.rep.length : Int) == 0) = false := by rw [beq_eq_false_iff_ne]; omega
  clear hE hp ha hb hd fo co cr hn h0
  obtain ⟨ep, hep⟩ : ∃ x, GErr.nil.at' = x := ⟨_, rfl⟩
  rw [hep, show GErr.nil.code = 0 from rfl] at HCE
  clear hep
  generalize rightP f = rp at *
  unfold lfA colA at *
  unfold faultV at HCE
  go_enter Tryz.func3, Tryz.ntmps3
  go_wp2_with fail
  refine (H2.out _ (((Below.refl _ _).alloc (Nat.le_refl _) _).alloc (by simp) _)).mono ?_; rintro e w1 ⟨rfl, hb1⟩
  obtain ⟨rA, rB, hbw, hz⟩ := rows2 hb1
  have RA := Lib.hid rA; have RB := Lib.hid rB; have Hbw := Lib.hid hbw
  have cA := rowc rA; have cB := rowc rB
  clear hb1 rA rB hbw
  go_wp2_with fail
  refine (HSl.out _ Hbw.out).mono ?_; rintro e w2 ⟨⟨b1, rfl, hsl, hsl2⟩, hb2⟩
  replace RA := Lib.hid (row_keep hb2 RA.out); replace RB := Lib.hid (row_keep hb2 RB.out); replace Hbw := Lib.hid (Hbw.out.trans (hb2.mono Hbw.out.size))
  clear hb2 cA cB
  have cA := rowc RA.out; have cB := rowc RB.out
  cases b1 with
  | false =>
    go_wp2_with fail
    go_ret
    exact ⟨rfl, Hbw.out⟩
  | true =>
  replace HOL := Lib.hid (HOL.out (hsl rfl))
  have HS2 := Lib.hid hsl2
  have hl := HLn.out (HS2.out HVs.out rfl)
  have HOW := Lib.hid (HOW0.out hl); have HPo := Lib.hid (HPo0.out hl)
  clear hsl hsl2 HOW0 HPo0 HLn HVs hl HS2
  go_wp2_with fail
  refine (HRi.out _ Hbw.out).mono ?_; rintro e w2b ⟨rfl, hb2⟩
  replace RA := Lib.hid (row_keep hb2 RA.out); replace RB := Lib.hid (row_keep hb2 RB.out); replace Hbw := Lib.hid (Hbw.out.trans (hb2.mono Hbw.out.size))
  clear hb2 cA cB
  have cA := rowc RA.out; have cB := rowc RB.out
  cases rp with
  | false =>
    go_wp2_with fail
    go_ret
    exact ⟨rfl, Hbw.out⟩
  | true =>
  go_wp2_with fail
  refine (HCE.out _ Hbw.out).mono ?_; rintro e w3 ⟨rfl, hb3⟩
  replace RA := Lib.hid (row_keep hb3 RA.out); replace RB := Lib.hid (row_keep hb3 RB.out); replace Hbw := Lib.hid (Hbw.out.trans (hb3.mono Hbw.out.size))
  clear hb3 cA cB
  have cA := rowc RA.out; have cB := rowc RB.out
  have hgE2 : w.heap.size + 1 < w3.heap.size := row_lt RB.out
  go_upto_region 5 with fail
  have RE := Lib.hid (heap_alloc_new w3 (.cells #[.int .i64 0, .int .i64 ep] 32))
  replace RA := Lib.hid ((Lib.alloc_old w3 (.cells #[.int .i64 0, .int .i64 ep] 32) _ (row_lt RA.out)).trans RA.out)
  replace RB := Lib.hid ((Lib.alloc_old w3 (.cells #[.int .i64 0, .int .i64 ep] 32) _ (row_lt RB.out)).trans RB.out)
  replace Hbw := Lib.hid (Hbw.out.alloc Hbw.out.size (.cells #[.int .i64 0, .int .i64 ep] 32))
  clear cA cB
  have hgE := RE.out
  generalize w3.alloc (.cells #[.int .i64 0, .int .i64 ep] 32) = w4 at *
  generalize w3.heap.size = gE at *
  clear hgE
  have cA := rowc RA.out; have cB := rowc RB.out; have cE := rowc RE.out
  go_upto_region 7 with fail
  obtain ⟨wA, hwA⟩ : ∃ x : World, x = w4 := ⟨w4, rfl⟩
  go_cut [7, 8] (fun s7 s8 wx => s7 = .string ⟨(pageB f c).toArray⟩ ∧ s8 = .nilIface ∧ Below w4.heap.size w4 wx)
  case first =>
    clear hwA
    have HB := Lib.hid (Below.refl w4.heap.size w4)
    go_region_held3 (fun w' => (∀ j, w'.cell? ⟨w.heap.size, j, none⟩ = (#[.int .i64 f.id, .int .i64 f.kind, .int .i64 f.mr, .int .i64 f.md, p] : Array Value)[j]?) ∧ (∀ j, w'.cell? ⟨w.heap.size + 1, j, none⟩ = (#[.int .i64 c.id, .slice a1 c.rep.length q1, b, d] : Array Value)[j]?)) (first | (with_reducible exact ⟨rowc RA.out, rowc RB.out⟩) | (with_reducible exact ⟨rowc_drew RA.out, rowc_drew RB.out⟩) | (with_reducible exact ⟨rowc_alloc RA.out _, rowc_alloc RB.out _⟩) | (with_reducible exact ⟨rowc_alloc_drew RA.out _, rowc_alloc_drew RB.out _⟩))
      (first
      | (go_at_call 15; (with_reducible refine (HOL.out _ ?_).mono ?_); (focus (first | (with_reducible exact (Hbw.out.trans (HB.out.mono Hbw.out.size))) | (with_reducible exact (Hbw.out.trans (HB.out.mono Hbw.out.size)).drew) | (with_reducible exact (Hbw.out.trans (HB.out.mono Hbw.out.size)).alloc (Hbw.out.trans (HB.out.mono Hbw.out.size)).size _) | (with_reducible exact ((Hbw.out.trans (HB.out.mono Hbw.out.size)).alloc (Hbw.out.trans (HB.out.mono Hbw.out.size)).size _).drew))); rintro e w9 ⟨⟨u1, rfl, hu1⟩, hb9⟩; (first | (with_reducible have hbs := drew_first hb9) | (have hbs := hb9)); replace RA := Lib.hid (row_keep hbs RA.out); replace RB := Lib.hid (row_keep hbs RB.out); (try (replace HU1 := Lib.hid (HU1.out.below hbs (Nat.le_refl _)))); (try (replace HU2 := Lib.hid (HU2.out.below hbs (Nat.le_refl _)))); replace RE := Lib.hid (row_keep hbs RE.out); replace HB := Lib.hid (HB.out.trans (hbs.mono HB.out.size)); clear hb9 hbs; have HU1 := Lib.hid hu1; clear hu1)
      | (go_at_call 16; (with_reducible refine (HOC.out _ ?_).mono ?_); (focus (first | (with_reducible exact (Hbw.out.trans (HB.out.mono Hbw.out.size))) | (with_reducible exact (Hbw.out.trans (HB.out.mono Hbw.out.size)).drew) | (with_reducible exact (Hbw.out.trans (HB.out.mono Hbw.out.size)).alloc (Hbw.out.trans (HB.out.mono Hbw.out.size)).size _) | (with_reducible exact ((Hbw.out.trans (HB.out.mono Hbw.out.size)).alloc (Hbw.out.trans (HB.out.mono Hbw.out.size)).size _).drew))); rintro e w9 ⟨⟨u2, rfl, hu2, hr2⟩, hb9⟩; (first | (with_reducible have hbs := drew_first hb9) | (have hbs := hb9)); replace RA := Lib.hid (row_keep hbs RA.out); replace RB := Lib.hid (row_keep hbs RB.out); (try (replace HU1 := Lib.hid (HU1.out.below hbs (Nat.le_refl _)))); (try (replace HU2 := Lib.hid (HU2.out.below hbs (Nat.le_refl _)))); replace RE := Lib.hid (row_keep hbs RE.out); replace HB := Lib.hid (HB.out.trans (hbs.mono HB.out.size)); clear hb9 hbs; have HU2 := Lib.hid hu2; have HRm := Lib.hid hr2; clear hu2 hr2)
      | (go_at_call 14; (with_reducible refine (HOW.out _ _ _ ?_ ?_ ?_ HRm.out).mono ?_); (focus (first | (with_reducible exact (Hbw.out.trans (HB.out.mono Hbw.out.size))) | (with_reducible exact (Hbw.out.trans (HB.out.mono Hbw.out.size)).drew) | (with_reducible exact (Hbw.out.trans (HB.out.mono Hbw.out.size)).alloc (Hbw.out.trans (HB.out.mono Hbw.out.size)).size _) | (with_reducible exact ((Hbw.out.trans (HB.out.mono Hbw.out.size)).alloc (Hbw.out.trans (HB.out.mono Hbw.out.size)).size _).drew))); (focus (first | exact HU1.out | exact HU1.out.below (Below.refl _ _).drew (Nat.le_refl _))); (focus (first | exact HU2.out | exact HU2.out.below (Below.refl _ _).drew (Nat.le_refl _))); rintro e w9 ⟨rfl, hb9⟩; (first | (with_reducible have hbs := drew_first hb9) | (have hbs := hb9)); replace RA := Lib.hid (row_keep hbs RA.out); replace RB := Lib.hid (row_keep hbs RB.out); (try (replace HU1 := Lib.hid (HU1.out.below hbs (Nat.le_refl _)))); (try (replace HU2 := Lib.hid (HU2.out.below hbs (Nat.le_refl _)))); replace RE := Lib.hid (row_keep hbs RE.out); replace HB := Lib.hid (HB.out.trans (hbs.mono HB.out.size)); clear hb9 hbs))
    all_goals (go_wp2_with fail; go_meet)
    all_goals (exact ⟨rfl, rfl, HB.out⟩)
  case rest =>
  obtain ⟨rfl, rfl, hbx⟩ := hcut
  replace RA := Lib.hid (row_keep hbx RA.out); replace RB := Lib.hid (row_keep hbx RB.out); replace RE := Lib.hid (row_keep hbx RE.out); replace Hbw := Lib.hid (Hbw.out.trans (hbx.mono Hbw.out.size))
  clear cA cB cE hbx hwA
  have cE := rowc RE.out; have cA := rowc RA.out; have cB := rowc RB.out
  generalize pageB f c = PB at *
  go_wp2_with fail
  refine (HPo.out _ Hbw.out).mono ?_; rintro e w7 ⟨rfl, hb6⟩
  replace Hbw := Lib.hid (Hbw.out.trans (hb6.mono Hbw.out.size))
  clear hb6
  go_wp2_with fail
  go_ret
  exact ⟨rfl, Hbw.out⟩

theorem pageWrites_law {w : World} (vf : Value) (f : Lf) (hf : IsLf w vf f) (fo : f.Ok) (vc : Value) (c : Col) (hc : IsCol w vc c) (co : c.Ok) (cr : c.Reach) (hL : laidMetH Tryz.prog Rows.pageWritesRow.laid w) :
    Calls Tryz.prog 3 #[vf, vc] w fun e w' => e = .returned (.bool true) ∧ Below w.heap.size w w' := by
  have hL' : laidMetH Tryz.prog fullLaid w := hL
  obtain ⟨adr, hE⟩ := env_of_laid hL'
  by_cases hn : colErr f c false = .nil
  · by_cases h0 : c.rep = []
    · exact pw_none f c vf vc w adr hE hf hc fo co cr hn h0
    · exact pw_ok f c vf vc w adr hE hf hc fo co cr hn h0
  · exact pw_bad f c vf vc w adr hE hf hc fo co cr hn
end Go.Proofs.YtpbkmfnfcdhhjaaGreatDoor
