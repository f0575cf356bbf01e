/- The walk of the statement PageTwice. -/
import Derived.Test.YtaebhilgmmfalaaDoorPr5
import Derived.Test.YtaebhilgmmfalaaDoorMPw
import Derived.Test.YtaebhilgmmfalaaDoorPt1
import Derived.Test.YtaebhilgmmfalaaDoorMSam
import Derived.Test.YtaebhilgmmfalaaDoorMCa
import Derived.Test.YtaebhilgmmfalaaDoorMRw
import Derived.Deep.RegionHeld3
import Derived.Deep.DeepCutAuto
namespace Go.Proofs.YtaebhilgmmfalaaDoor
set_option linter.unusedVariables false
set_option linter.unusedSimpArgs false
open Go Go.RowKit Go.ChangeShapes

theorem col_form {w : World} {u : Value} {c : Col} (h : IsCol w u c) : ∃ (n1 n2 n3 c1 c2 c3 : Nat) (d1 d2 d3 : Option Addr), u = .agg #[.int .i64 c.id, .slice d1 n1 c1, .slice d2 n2 c2, .slice d3 n3 c3] := by
  obtain ⟨p, q, d, rfl, i1, i2, i3⟩ := h
  obtain ⟨x1, y1, rfl⟩ := i1.form; obtain ⟨x2, y2, rfl⟩ := i2.form; obtain ⟨x3, y3, rfl⟩ := i3.form
  exact ⟨_, _, _, _, _, _, _, _, _, rfl⟩
theorem iface_of {w : World} {adr : Nat → Addr} {e : GErr} {u : Value} (h : IsErr w adr e u) (hn : e ≠ .nil) : ∃ T p, u = .iface T p := by
  cases e with
  | nil => exact absurd rfl hn
  | sent k => exact ⟨_, _, h.2.2⟩
  | fault k p => obtain ⟨-, -, b, h, -⟩ := h; exact ⟨_, _, h⟩
/-- Write where no page is -/
theorem write_fail (f : Lf) (c : Col) (vf vc : Value) (w : World) (adr : Nat → Addr) (hE : ErrsAt w adr [3, 4]) (hf : IsLf w vf f) (hc : IsCol w vc c) (fo : f.Ok) (co : c.Ok) (hn : ¬ (colErr f c false = .nil ∧ c.rep ≠ [])) :
    Calls Tryd.prog 8 #[vf, vc] w fun e w' => (∃ T q, e = .returned (.tuple #[.string ⟨#[]⟩, .iface T q])) ∧ Below w.heap.size w w' := by
  by_cases h1 : colErr f c false = .nil
  · have h0 : c.rep = [] := by
      by_cases h : c.rep = []
      · exact h
      · exact absurd ⟨h1, h⟩ hn
    exact (write_none f c vf vc w adr hE hf hc fo co h1 h0).mono fun e w' ⟨a, b⟩ => ⟨⟨_, _, a⟩, b⟩
  · exact (write_bad f c vf vc w adr hE hf hc fo co h1).mono fun e w' ⟨⟨u, a, h⟩, b⟩ => ⟨by obtain ⟨T, q, rfl⟩ := iface_of h h1; exact ⟨T, q, a⟩, b⟩
theorem page_app (f : Lf) (c : Col) (PB s : ByteArray) (h : PB = ⟨(pageB f c).toArray⟩) : (PB ++ s).data.toList = pageB f c ++ s.data.toList ∧ PB.size = (pageB f c).length ∧ (PB ++ s).size = PB.size + s.size := by
  subst h
  refine ⟨by simp, by show (pageB f c).toArray.size = _; simp, by simp⟩
/-- the page's bytes are few -/
theorem page_small {f : Lf} {c : Col} (co : c.Ok) (hr : Right f c) (hl : c.rep.length ≤ 1000) : (pageB f c).length ≤ 190015 := by
  have h1 := (body_len co hr hl).2.2.2.2.1
  have h2 := seven_len (n := (bodyB f c).length) (by omega)
  unfold pageB
  rw [page_len]
  omega
set_option maxRecDepth 100000 in
set_option maxHeartbeats 16000000 in
theorem pt_none (f : Lf) (c : Col) (s : ByteArray) (hs2 : s.size ≤ maxLen) (vf vc : Value) (w : World) (adr : Nat → Addr) (hE : ErrsAt w adr [1, 2, 3, 4, 7]) (hf : IsLf w vf f) (hc : IsCol w vc c) (fo : f.Ok) (co : c.Ok) (cr : c.Reach) (hn : ¬ (colErr f c false = .nil ∧ c.rep ≠ [])) :
    Calls Tryd.prog 4 #[vf, vc, .string s] w fun e w' => e = .returned (.bool true) ∧ Below w.heap.size w w' := by
  have HF := Lib.hid (fun (w1 : World) (h : Below w.heap.size w w1) => hf.below h (Nat.le_refl _))
  have HC := Lib.hid (fun (w1 : World) (h : Below w.heap.size w w1) => hc.below h (Nat.le_refl _))
  have H2 := Lib.hid (fun (w1 : World) (h : Below w.heap.size w w1) => byte80_any w1 adr ((hE.sub (by decide)).below h))
  have HE := Lib.hid hE
  have HSl := Lib.hid (fun (w1 : World) (h : Below w.heap.size w w1) => slim_any f c vf vc w1 (HF.out w1 h) (HC.out w1 h) fo co cr)
  have HRi := Lib.hid (fun (w1 : World) (h : Below w.heap.size w w1) => rightP_any f vf w1 (HF.out w1 h))
  have HOL := Lib.hid (fun (hp : f.path.length ≤ 100) (w1 : World) (h : Below w.heap.size w w1) => ownLeaf_any f vf w1 (HF.out w1 h) hp)
  have HOC := Lib.hid (fun (w1 : World) (h : Below w.heap.size w w1) => ownCol_cap c vc w1 (HC.out w1 h) cr)
  have HOW := Lib.hid (fun (v1 v2 : Value) (w1 : World) (h : Below w.heap.size w w1) (h1 : IsLf w1 v1 f) (h2 : IsCol w1 v2 c) (_ : RoomCol v2) => write_fail f c v1 v2 w1 adr ((hE.sub (by decide)).below h) h1 h2 fo co hn)
  obtain ⟨p, rfl, hp⟩ := hf
  obtain ⟨a, b, d, rfl, ha, hb, hd⟩ := hc
  unfold maxLen at hs2
  clear hE hp ha hb hd fo co cr hn
  generalize rightP f = rp at *
  unfold lfA colA at *
  go_enter Tryd.func4, Tryd.ntmps4
  go_wp2_with fail
  refine (H2.out _ (((Below.refl _ _).alloc (Nat.le_refl _) _).alloc (by simp) _)).mono ?_; rintro e w1 ⟨rfl, hb1⟩
  obtain ⟨rA, rB, hbw, hz⟩ := rows2 hb1
  have RA := Lib.hid rA; have RB := Lib.hid rB; have Hbw := Lib.hid hbw
  clear hb1 rA rB hbw hz
  have cA := rowc RA.out; have fA := rowf RA.out; have cB := rowc RB.out; have fB := rowf RB.out
  go_wp2_with fail
  refine (HSl.out _ Hbw.out).mono ?_; rintro e9 w2 ⟨⟨b1, rfl, hsl, hsl2⟩, hb9⟩
  clear cA fA cB fB
  replace RA := Lib.hid (row_keep hb9 RA.out); replace RB := Lib.hid (row_keep hb9 RB.out); replace Hbw := Lib.hid (Hbw.out.trans (hb9.mono Hbw.out.size))
  clear hb9
  have cA := rowc RA.out; have fA := rowf RA.out; have cB := rowc RB.out; have fB := rowf RB.out
  have HS2 := Lib.hid hsl2
  cases b1 with
  | false =>
    go_wp2_with fail
    go_ret
    exact ⟨rfl, Hbw.out⟩
  | true =>
  replace HOL := Lib.hid (HOL.out (hsl rfl))
  clear hsl hsl2
  go_wp2_with fail
  refine (HRi.out _ Hbw.out).mono ?_; rintro e9 w3 ⟨rfl, hb9⟩
  clear cA fA cB fB
  replace RA := Lib.hid (row_keep hb9 RA.out); replace RB := Lib.hid (row_keep hb9 RB.out); replace Hbw := Lib.hid (Hbw.out.trans (hb9.mono Hbw.out.size))
  clear hb9
  have cA := rowc RA.out; have fA := rowf RA.out; have cB := rowc RB.out; have fB := rowf RB.out
  cases rp with
  | false =>
    go_wp2_with fail
    go_ret
    exact ⟨rfl, Hbw.out⟩
  | true =>
  by_cases hs : s.size ≤ 500
  case neg =>
    have hs3 : (s.size : Int) > 500 := by omega
    go_wp2_with fail
    go_ret
    exact ⟨rfl, Hbw.out⟩
  have hs3 : ¬ (s.size : Int) > 500 := by omega
  go_upto_region 4 with fail
  clear fA fB
  obtain ⟨wA, hwA⟩ : ∃ x : World, x = w3 := ⟨w3, rfl⟩
  go_cut [8, 9] (fun s7 s8 wx => s7 = .string ⟨#[]⟩ ∧ (∃ T q, s8 = .iface T q) ∧ Below w3.heap.size w3 wx)
  case first =>
    clear hwA
    have HB := Lib.hid (Below.refl w3.heap.size w3)
    go_region_held3 (fun w' => (∀ j, w'.cell? ⟨w.heap.size, j, none⟩ = (#[.int .i64 f.id, .int .i64 f.kind, .int .i64 f.mr, .int .i64 f.md, p] : Array Value)[j]?) ∧ (∀ j, w'.cell? ⟨w.heap.size + 1, j, none⟩ = (#[.int .i64 c.id, a, b, d] : Array Value)[j]?)) (first | (with_reducible exact ⟨rowc RA.out, rowc RB.out⟩) | (with_reducible exact ⟨rowc_drew RA.out, rowc_drew RB.out⟩) | (with_reducible exact ⟨rowc_alloc RA.out _, rowc_alloc RB.out _⟩) | (with_reducible exact ⟨rowc_alloc_drew RA.out _, rowc_alloc_drew RB.out _⟩))
      (first
      | (go_at_call 9; (with_reducible refine (HOL.out _ ?_).mono ?_); (focus (first | (with_reducible exact (Hbw.out.trans (HB.out.mono Hbw.out.size))) | (with_reducible exact (Hbw.out.trans (HB.out.mono Hbw.out.size)).drew) | (with_reducible exact (Hbw.out.trans (HB.out.mono Hbw.out.size)).alloc (Hbw.out.trans (HB.out.mono Hbw.out.size)).size _) | (with_reducible exact ((Hbw.out.trans (HB.out.mono Hbw.out.size)).alloc (Hbw.out.trans (HB.out.mono Hbw.out.size)).size _).drew))); rintro e w9 ⟨⟨u1, rfl, hu1⟩, hb9⟩; (first | (with_reducible have hbs := drew_first hb9) | (have hbs := hb9)); replace RA := Lib.hid (row_keep hbs RA.out); replace RB := Lib.hid (row_keep hbs RB.out); (try (replace HU1 := Lib.hid (HU1.out.below hbs (Nat.le_refl _)))); (try (replace HU2 := Lib.hid (HU2.out.below hbs (Nat.le_refl _)))); replace HB := Lib.hid (HB.out.trans (hbs.mono HB.out.size)); clear hb9 hbs; have HU1 := Lib.hid hu1; clear hu1)
      | (go_at_call 10; (with_reducible refine (HOC.out _ ?_).mono ?_); (focus (first | (with_reducible exact (Hbw.out.trans (HB.out.mono Hbw.out.size))) | (with_reducible exact (Hbw.out.trans (HB.out.mono Hbw.out.size)).drew) | (with_reducible exact (Hbw.out.trans (HB.out.mono Hbw.out.size)).alloc (Hbw.out.trans (HB.out.mono Hbw.out.size)).size _) | (with_reducible exact ((Hbw.out.trans (HB.out.mono Hbw.out.size)).alloc (Hbw.out.trans (HB.out.mono Hbw.out.size)).size _).drew))); rintro e w9 ⟨⟨u2, rfl, hu2, hr2⟩, hb9⟩; (first | (with_reducible have hbs := drew_first hb9) | (have hbs := hb9)); replace RA := Lib.hid (row_keep hbs RA.out); replace RB := Lib.hid (row_keep hbs RB.out); (try (replace HU1 := Lib.hid (HU1.out.below hbs (Nat.le_refl _)))); (try (replace HU2 := Lib.hid (HU2.out.below hbs (Nat.le_refl _)))); replace HB := Lib.hid (HB.out.trans (hbs.mono HB.out.size)); clear hb9 hbs; have HU2 := Lib.hid hu2; have HRm := Lib.hid hr2; clear hu2 hr2)
      | (go_at_call 8; (with_reducible refine (HOW.out _ _ _ ?_ ?_ ?_ HRm.out).mono ?_); (focus (first | (with_reducible exact (Hbw.out.trans (HB.out.mono Hbw.out.size))) | (with_reducible exact (Hbw.out.trans (HB.out.mono Hbw.out.size)).drew) | (with_reducible exact (Hbw.out.trans (HB.out.mono Hbw.out.size)).alloc (Hbw.out.trans (HB.out.mono Hbw.out.size)).size _) | (with_reducible exact ((Hbw.out.trans (HB.out.mono Hbw.out.size)).alloc (Hbw.out.trans (HB.out.mono Hbw.out.size)).size _).drew))); (focus (first | exact HU1.out | exact HU1.out.below (Below.refl _ _).drew (Nat.le_refl _))); (focus (first | exact HU2.out | exact HU2.out.below (Below.refl _ _).drew (Nat.le_refl _))); rintro e w9 ⟨⟨T9, q9, rfl⟩, hb9⟩; (first | (with_reducible have hbs := drew_first hb9) | (have hbs := hb9)); replace RA := Lib.hid (row_keep hbs RA.out); replace RB := Lib.hid (row_keep hbs RB.out); (try (replace HU1 := Lib.hid (HU1.out.below hbs (Nat.le_refl _)))); (try (replace HU2 := Lib.hid (HU2.out.below hbs (Nat.le_refl _)))); replace HB := Lib.hid (HB.out.trans (hbs.mono HB.out.size)); clear hb9 hbs))
    all_goals (go_wp2_with fail; go_meet)
    all_goals (exact ⟨rfl, ⟨_, _, rfl⟩, HB.out⟩)
  case rest =>
  obtain ⟨rfl, ⟨T9, q9, rfl⟩, hbx⟩ := hcut
  replace Hbw := Lib.hid (Hbw.out.trans (hbx.mono Hbw.out.size))
  clear cA cB hbx hwA
  go_wp2_with fail
  go_ret
  exact ⟨rfl, Hbw.out⟩
set_option maxRecDepth 100000 in
set_option maxHeartbeats 16000000 in
theorem pt_ok (f : Lf) (c : Col) (s : ByteArray) (hs2 : s.size ≤ maxLen) (vf vc : Value) (w : World) (adr : Nat → Addr) (hE : ErrsAt w adr [1, 2, 3, 4, 7]) (hf : IsLf w vf f) (hc : IsCol w vc c) (fo : f.Ok) (co : c.Ok) (cr : c.Reach) (hn : colErr f c false = .nil) (h0 : c.rep ≠ []) :
    Calls Tryd.prog 4 #[vf, vc, .string s] w fun e w' => e = .returned (.bool true) ∧ Below w.heap.size w w' := by
  have HF := Lib.hid (fun (w1 : World) (h : Below w.heap.size w w1) => hf.below h (Nat.le_refl _))
  have HC := Lib.hid (fun (w1 : World) (h : Below w.heap.size w w1) => hc.below h (Nat.le_refl _))
  have H2 := Lib.hid (fun (w1 : World) (h : Below w.heap.size w w1) => byte80_any w1 adr ((hE.sub (by decide)).below h))
  have HE := Lib.hid hE
  have HSl := Lib.hid (fun (w1 : World) (h : Below w.heap.size w w1) => slim_any f c vf vc w1 (HF.out w1 h) (HC.out w1 h) fo co cr)
  have HRi := Lib.hid (fun (w1 : World) (h : Below w.heap.size w w1) => rightP_any f vf w1 (HF.out w1 h))
  have HOL := Lib.hid (fun (hp : f.path.length ≤ 100) (w1 : World) (h : Below w.heap.size w w1) => ownLeaf_any f vf w1 (HF.out w1 h) hp)
  have HOC := Lib.hid (fun (w1 : World) (h : Below w.heap.size w w1) => ownCol_cap c vc w1 (HC.out w1 h) cr)
  have HOW0 := Lib.hid (fun (hl : c.rep.length ≤ 1000) (v1 v2 : Value) (w1 : World) (h : Below w.heap.size w w1) (h1 : IsLf w1 v1 f) (h2 : IsCol w1 v2 c) (hr : RoomCol v2) => write_ok f c v1 v2 w1 adr ((hE.sub (by decide)).below h) h1 h2 hr fo co hn h0 hl)
  have HLn := Lib.hid (show slimN c ≤ 2000 → c.rep.length ≤ 1000 from fun h => by have := (right_of hn).1.len; unfold slimN at h; omega)
  have HVs := Lib.hid (show ∀ x ∈ c.vals, x.s.size ≤ 100000 from fun x hx => by have := okP_size ((right_of hn).1.vals x hx); omega)
  have Hn := Lib.hid hn; have H0 := Lib.hid h0; have Fo := Lib.hid fo; have Co := Lib.hid co
  obtain ⟨p, rfl, hp⟩ := hf
  obtain ⟨a, b, d, rfl, ha, hb, hd⟩ := hc
  unfold maxLen at hs2
  clear hE hp ha hb hd fo co cr hn h0
  generalize rightP f = rp at *
  unfold lfA colA at *
  go_enter Tryd.func4, Tryd.ntmps4
  go_wp2_with fail
  refine (H2.out _ (((Below.refl _ _).alloc (Nat.le_refl _) _).alloc (by simp) _)).mono ?_; rintro e w1 ⟨rfl, hb1⟩
  obtain ⟨rA, rB, hbw, hz⟩ := rows2 hb1
  have RA := Lib.hid rA; have RB := Lib.hid rB; have Hbw := Lib.hid hbw
  clear hb1 rA rB hbw hz
  have cA := rowc RA.out; have fA := rowf RA.out; have cB := rowc RB.out; have fB := rowf RB.out
  go_wp2_with fail
  refine (HSl.out _ Hbw.out).mono ?_; rintro e9 w2 ⟨⟨b1, rfl, hsl, hsl2⟩, hb9⟩
  clear cA fA cB fB
  replace RA := Lib.hid (row_keep hb9 RA.out); replace RB := Lib.hid (row_keep hb9 RB.out); replace Hbw := Lib.hid (Hbw.out.trans (hb9.mono Hbw.out.size))
  clear hb9
  have cA := rowc RA.out; have fA := rowf RA.out; have cB := rowc RB.out; have fB := rowf RB.out
  have HS2 := Lib.hid hsl2
  cases b1 with
  | false =>
    go_wp2_with fail
    go_ret
    exact ⟨rfl, Hbw.out⟩
  | true =>
  replace HOL := Lib.hid (HOL.out (hsl rfl))
  clear hsl hsl2
  go_wp2_with fail
  refine (HRi.out _ Hbw.out).mono ?_; rintro e9 w3 ⟨rfl, hb9⟩
  clear cA fA cB fB
  replace RA := Lib.hid (row_keep hb9 RA.out); replace RB := Lib.hid (row_keep hb9 RB.out); replace Hbw := Lib.hid (Hbw.out.trans (hb9.mono Hbw.out.size))
  clear hb9
  have cA := rowc RA.out; have fA := rowf RA.out; have cB := rowc RB.out; have fB := rowf RB.out
  cases rp with
  | false =>
    go_wp2_with fail
    go_ret
    exact ⟨rfl, Hbw.out⟩
  | true =>
  by_cases hs : s.size ≤ 500
  case neg =>
    have hs3 : (s.size : Int) > 500 := by omega
    go_wp2_with fail
    go_ret
    exact ⟨rfl, Hbw.out⟩
  have hs3 : ¬ (s.size : Int) > 500 := by omega
  obtain ⟨PB, hPB⟩ : ∃ PB : ByteArray, PB = ⟨(pageB f c).toArray⟩ := ⟨_, rfl⟩
  have hl := HLn.out (HS2.out HVs.out (by first | rfl | trivial))
  have hrg := (right_of Hn.out).1
  have HOW1 := HOW0.out hl
  obtain ⟨hp1, hp2, hp3⟩ := page_app f c PB s hPB
  have hp4 := page_small Co.out hrg hl
  rw [← hPB] at HOW1
  have HOW := Lib.hid HOW1
  have hpz : PB.size ≤ 190015 := by omega
  have hvz := hrg.vals_leJ
  have hdz := hrg.len
  have e1 : pageR f (PB ++ s).data.toList = .inr (c, PB.size) := by rw [hp1, hp2]; exact pageR_page _ Co.out hrg (List.length_pos_iff.2 H0.out) hl
  have e2 : peekR f (PB ++ s).data.toList = .inr (knownSt c, PB.size) := by rw [hp1, hp2]; exact peekR_page _ Co.out hrg (List.length_pos_iff.2 H0.out) hl
  obtain ⟨ks, hks⟩ : ∃ S : St, S = knownSt c := ⟨_, rfl⟩
  rw [← hks] at e2
  have HRd := Lib.hid (fun (v1 : Value) (w1 : World) (h : Below w.heap.size w w1) (h1 : IsLf w1 v1 f) => show Calls Tryd.prog 11 #[v1, .string (PB ++ s)] w1 fun e w' => (∃ u, e = .returned (.tuple #[u, .int .i64 (PB.size : Nat), .nilIface]) ∧ IsCol w' u c) ∧ Below w1.heap.size w1 w' from
    (read_page f v1 (PB ++ s) (by omega) w1 adr (HE.out.below h) h1 Fo.out).mono fun e w' ⟨a, b⟩ => ⟨by rw [e1] at a; exact a, b⟩)
  have HPk0 := fun (v1 : Value) (w1 : World) (h : Below w.heap.size w w1) (h1 : IsLf w1 v1 f) => show Calls Tryd.prog 13 #[v1, .string (PB ++ s)] w1 fun e w' => e = .returned (.tuple #[.agg (stA ks), .int .i64 (PB.size : Nat), .nilIface]) ∧ Below w1.heap.size w1 w' from
    (peek_page f v1 (PB ++ s) (by omega) w1 adr (HE.out.below h) h1 Fo.out).mono fun e w' ⟨a, b⟩ => ⟨by rw [e2] at a; exact a, b⟩
  have HOf0 := fun (v1 v2 : Value) (w1 : World) (h : Below w.heap.size w w1) (h1 : IsLf w1 v1 f) (h2 : IsCol w1 v2 c) => show Calls Tryd.prog 14 #[v1, v2] w1 fun e w' => e = .returned (.tuple #[.agg (stA ks), .nilIface]) ∧ Below w1.heap.size w1 w' from
    (of_nil f c v1 v2 w1 adr ((HE.out.sub (by decide)).below h) h1 h2 Fo.out Co.out Hn.out).mono fun e w' ⟨a, b⟩ => ⟨by rw [hks]; exact a, b⟩
  have HSc := Lib.hid (fun (v1 v2 : Value) (w1 : World) (h1 : IsCol w1 v1 c) (h2 : IsCol w1 v2 c) => sameCol_same c v1 v2 w1 h1 h2 (by omega) (by omega) (by unfold maxLen; omega))
  have he : ∀ wx, (binOp .eql 46 (.agg (stA ks)) (.agg (stA ks))).run Tryd.prog wx = .ok (.bool true) wx := fun wx => by rw [eql_st, stEq_self]
  unfold stA at HPk0 HOf0 he
  have HPk := Lib.hid HPk0; have HOf := Lib.hid HOf0; have He := Lib.hid he
  clear HPk0 HOf0 he e1 e2 hp1 hp2 hp3 hp4 hks hPB HOW0 HOW1 HLn HVs hl HS2 hrg hvz hdz
  go_upto_region 4 with fail
  clear fA fB
  obtain ⟨wA, hwA⟩ : ∃ x : World, x = w3 := ⟨w3, rfl⟩
  go_cut [8, 9] (fun s7 s8 wx => s7 = .string PB ∧ s8 = .nilIface ∧ Below w3.heap.size w3 wx)
  case first =>
    clear hwA
    have HB := Lib.hid (Below.refl w3.heap.size w3)
    go_region_held3 (fun w' => (∀ j, w'.cell? ⟨w.heap.size, j, none⟩ = (#[.int .i64 f.id, .int .i64 f.kind, .int .i64 f.mr, .int .i64 f.md, p] : Array Value)[j]?) ∧ (∀ j, w'.cell? ⟨w.heap.size + 1, j, none⟩ = (#[.int .i64 c.id, a, b, d] : Array Value)[j]?)) (first | (with_reducible exact ⟨rowc RA.out, rowc RB.out⟩) | (with_reducible exact ⟨rowc_drew RA.out, rowc_drew RB.out⟩) | (with_reducible exact ⟨rowc_alloc RA.out _, rowc_alloc RB.out _⟩) | (with_reducible exact ⟨rowc_alloc_drew RA.out _, rowc_alloc_drew RB.out _⟩))
      (first
      | (go_at_call 9; (with_reducible refine (HOL.out _ ?_).mono ?_); (focus (first | (with_reducible exact (Hbw.out.trans (HB.out.mono Hbw.out.size))) | (with_reducible exact (Hbw.out.trans (HB.out.mono Hbw.out.size)).drew) | (with_reducible exact (Hbw.out.trans (HB.out.mono Hbw.out.size)).alloc (Hbw.out.trans (HB.out.mono Hbw.out.size)).size _) | (with_reducible exact ((Hbw.out.trans (HB.out.mono Hbw.out.size)).alloc (Hbw.out.trans (HB.out.mono Hbw.out.size)).size _).drew))); rintro e w9 ⟨⟨u1, rfl, hu1⟩, hb9⟩; (first | (with_reducible have hbs := drew_first hb9) | (have hbs := hb9)); replace RA := Lib.hid (row_keep hbs RA.out); replace RB := Lib.hid (row_keep hbs RB.out); (try (replace HU1 := Lib.hid (HU1.out.below hbs (Nat.le_refl _)))); (try (replace HU2 := Lib.hid (HU2.out.below hbs (Nat.le_refl _)))); replace HB := Lib.hid (HB.out.trans (hbs.mono HB.out.size)); clear hb9 hbs; have HU1 := Lib.hid hu1; clear hu1)
      | (go_at_call 10; (with_reducible refine (HOC.out _ ?_).mono ?_); (focus (first | (with_reducible exact (Hbw.out.trans (HB.out.mono Hbw.out.size))) | (with_reducible exact (Hbw.out.trans (HB.out.mono Hbw.out.size)).drew) | (with_reducible exact (Hbw.out.trans (HB.out.mono Hbw.out.size)).alloc (Hbw.out.trans (HB.out.mono Hbw.out.size)).size _) | (with_reducible exact ((Hbw.out.trans (HB.out.mono Hbw.out.size)).alloc (Hbw.out.trans (HB.out.mono Hbw.out.size)).size _).drew))); rintro e w9 ⟨⟨u2, rfl, hu2, hr2⟩, hb9⟩; (first | (with_reducible have hbs := drew_first hb9) | (have hbs := hb9)); replace RA := Lib.hid (row_keep hbs RA.out); replace RB := Lib.hid (row_keep hbs RB.out); (try (replace HU1 := Lib.hid (HU1.out.below hbs (Nat.le_refl _)))); (try (replace HU2 := Lib.hid (HU2.out.below hbs (Nat.le_refl _)))); replace HB := Lib.hid (HB.out.trans (hbs.mono HB.out.size)); clear hb9 hbs; have HU2 := Lib.hid hu2; have HRm := Lib.hid hr2; clear hu2 hr2)
      | (go_at_call 8; (with_reducible refine (HOW.out _ _ _ ?_ ?_ ?_ HRm.out).mono ?_); (focus (first | (with_reducible exact (Hbw.out.trans (HB.out.mono Hbw.out.size))) | (with_reducible exact (Hbw.out.trans (HB.out.mono Hbw.out.size)).drew) | (with_reducible exact (Hbw.out.trans (HB.out.mono Hbw.out.size)).alloc (Hbw.out.trans (HB.out.mono Hbw.out.size)).size _) | (with_reducible exact ((Hbw.out.trans (HB.out.mono Hbw.out.size)).alloc (Hbw.out.trans (HB.out.mono Hbw.out.size)).size _).drew))); (focus (first | exact HU1.out | exact HU1.out.below (Below.refl _ _).drew (Nat.le_refl _))); (focus (first | exact HU2.out | exact HU2.out.below (Below.refl _ _).drew (Nat.le_refl _))); rintro e w9 ⟨rfl, hb9⟩; (first | (with_reducible have hbs := drew_first hb9) | (have hbs := hb9)); replace RA := Lib.hid (row_keep hbs RA.out); replace RB := Lib.hid (row_keep hbs RB.out); (try (replace HU1 := Lib.hid (HU1.out.below hbs (Nat.le_refl _)))); (try (replace HU2 := Lib.hid (HU2.out.below hbs (Nat.le_refl _)))); replace HB := Lib.hid (HB.out.trans (hbs.mono HB.out.size)); clear hb9 hbs))
    all_goals (go_wp2_with fail; go_meet)
    all_goals (exact ⟨rfl, rfl, HB.out⟩)
  case rest =>
  obtain ⟨rfl, rfl, hbx⟩ := hcut
  clear cA cB hwA
  replace RA := Lib.hid (row_keep hbx RA.out); replace RB := Lib.hid (row_keep hbx RB.out); replace Hbw := Lib.hid (Hbw.out.trans (hbx.mono Hbw.out.size))
  clear hbx
  have cA := rowc RA.out; have fA := rowf RA.out; have cB := rowc RB.out; have fB := rowf RB.out
  go_wp2_with fail
  refine (HOL.out _ Hbw.out).mono ?_; rintro e9 w4 ⟨⟨u1, rfl, hu1⟩, hb9⟩
  clear cA fA cB fB
  replace RA := Lib.hid (row_keep hb9 RA.out); replace RB := Lib.hid (row_keep hb9 RB.out); replace Hbw := Lib.hid (Hbw.out.trans (hb9.mono Hbw.out.size))
  clear hb9
  have cA := rowc RA.out; have fA := rowf RA.out; have cB := rowc RB.out; have fB := rowf RB.out
  have HU1 := Lib.hid hu1
  clear hu1
  have hsum : ¬ 9223372036854775807 < PB.size + s.size := by omega
  go_wp2_with fail
  refine (HRd.out _ _ Hbw.out HU1.out).mono ?_; rintro e9 w5 ⟨⟨u2, rfl, hu2⟩, hb9⟩
  clear cA fA cB fB
  replace RA := Lib.hid (row_keep hb9 RA.out); replace RB := Lib.hid (row_keep hb9 RB.out); replace Hbw := Lib.hid (Hbw.out.trans (hb9.mono Hbw.out.size))
  clear hb9
  have cA := rowc RA.out; have fA := rowf RA.out; have cB := rowc RB.out; have fB := rowf RB.out
  obtain ⟨n1, n2, n3, c1, c2, c3, d1, d2, d3, rfl⟩ := col_form hu2
  have HU2 := Lib.hid hu2
  clear hu2 HU1
  go_upto_region 8 with fail
  have RX := Lib.hid (heap_alloc_new w5 (.cells #[.int .i64 c.id, .slice d1 n1 c1, .slice d2 n2 c2, .slice d3 n3 c3] 27))
  have hb9 := (Below.refl w5.heap.size w5).alloc (Nat.le_refl _) (.cells #[.int .i64 c.id, .slice d1 n1 c1, .slice d2 n2 c2, .slice d3 n3 c3] 27)
  clear cA fA cB fB
  replace RA := Lib.hid (row_keep hb9 RA.out); replace RB := Lib.hid (row_keep hb9 RB.out); replace HU2 := Lib.hid (HU2.out.below hb9 (Nat.le_refl _)); replace Hbw := Lib.hid (Hbw.out.trans (hb9.mono Hbw.out.size))
  clear hb9
  generalize w5.alloc (.cells #[.int .i64 c.id, .slice d1 n1 c1, .slice d2 n2 c2, .slice d3 n3 c3] 27) = w6 at *
  generalize w5.heap.size = gX at *
  have cA := rowc RA.out; have fA := rowf RA.out; have cB := rowc RB.out; have fB := rowf RB.out; have cX := rowc RX.out; have fX := rowf RX.out
  go_wp2_with fail
  refine (HSc.out _ _ _ HU2.out (HC.out _ Hbw.out)).mono ?_; rintro e9 w7 ⟨rfl, hb9⟩
  clear cA fA cB fB cX fX
  replace RA := Lib.hid (row_keep hb9 RA.out); replace RB := Lib.hid (row_keep hb9 RB.out); replace RX := Lib.hid (row_keep hb9 RX.out); replace Hbw := Lib.hid (Hbw.out.trans (hb9.mono Hbw.out.size))
  clear hb9
  have cA := rowc RA.out; have fA := rowf RA.out; have cB := rowc RB.out; have fB := rowf RB.out; have cX := rowc RX.out; have fX := rowf RX.out
  go_wp2_with fail
  refine (HOL.out _ Hbw.out).mono ?_; rintro e9 w8 ⟨⟨u1, rfl, hu1⟩, hb9⟩
  clear cA fA cB fB cX fX
  replace RA := Lib.hid (row_keep hb9 RA.out); replace RB := Lib.hid (row_keep hb9 RB.out); replace RX := Lib.hid (row_keep hb9 RX.out); replace Hbw := Lib.hid (Hbw.out.trans (hb9.mono Hbw.out.size))
  clear hb9
  have cA := rowc RA.out; have fA := rowf RA.out; have cB := rowc RB.out; have fB := rowf RB.out; have cX := rowc RX.out; have fX := rowf RX.out
  have HU1 := Lib.hid hu1
  clear hu1
  go_wp2_with fail
  refine (HPk.out _ _ Hbw.out HU1.out).mono ?_; rintro e9 w9 ⟨rfl, hb9⟩
  clear cA fA cB fB cX fX
  replace RA := Lib.hid (row_keep hb9 RA.out); replace RB := Lib.hid (row_keep hb9 RB.out); replace RX := Lib.hid (row_keep hb9 RX.out); replace Hbw := Lib.hid (Hbw.out.trans (hb9.mono Hbw.out.size))
  clear hb9
  have cA := rowc RA.out; have fA := rowf RA.out; have cB := rowc RB.out; have fB := rowf RB.out; have cX := rowc RX.out; have fX := rowf RX.out
  go_upto_region 11 with fail
  have RT := Lib.hid (heap_alloc_new w9 (.cells #[.int .i64 ks.e, .int .i64 ks.n, .bool ks.has, .int .i64 ks.lo.k, .int .i64 ks.lo.n, .string ks.lo.s, .int .i64 ks.hi.k, .int .i64 ks.hi.n, .string ks.hi.s] 46))
  have hb9 := (Below.refl w9.heap.size w9).alloc (Nat.le_refl _) (.cells #[.int .i64 ks.e, .int .i64 ks.n, .bool ks.has, .int .i64 ks.lo.k, .int .i64 ks.lo.n, .string ks.lo.s, .int .i64 ks.hi.k, .int .i64 ks.hi.n, .string ks.hi.s] 46)
  clear cA fA cB fB cX fX
  replace RA := Lib.hid (row_keep hb9 RA.out); replace RB := Lib.hid (row_keep hb9 RB.out); replace Hbw := Lib.hid (Hbw.out.trans (hb9.mono Hbw.out.size))
  clear hb9
  clear RX HU1 HU2
  generalize w9.alloc (.cells #[.int .i64 ks.e, .int .i64 ks.n, .bool ks.has, .int .i64 ks.lo.k, .int .i64 ks.lo.n, .string ks.lo.s, .int .i64 ks.hi.k, .int .i64 ks.hi.n, .string ks.hi.s] 46) = wa at *
  generalize w9.heap.size = gT at *
  have cA := rowc RA.out; have cB := rowc RB.out
  have hgT : gT < wa.heap.size := row_lt RT.out
  have hgB : w.heap.size + 1 < wa.heap.size := row_lt RB.out
  go_cut [14, 15] (fun s14 s15 wx => ∃ g : Nat, s14 = .pointer (some ⟨g, 0, none⟩) ∧ wx.heap[g]? = some (.cells #[.int .i64 ks.e, .int .i64 ks.n, .bool ks.has, .int .i64 ks.lo.k, .int .i64 ks.lo.n, .string ks.lo.s, .int .i64 ks.hi.k, .int .i64 ks.hi.n, .string ks.hi.s] 46 (0, 0)) ∧ s15 = .nilIface ∧ Below wa.heap.size wa wx)
  case first =>
    have HB := Lib.hid (Below.refl wa.heap.size wa)
    go_region_held3 (fun w' => (∀ j, w'.cell? ⟨w.heap.size, j, none⟩ = (#[.int .i64 f.id, .int .i64 f.kind, .int .i64 f.mr, .int .i64 f.md, p] : Array Value)[j]?) ∧ (∀ j, w'.cell? ⟨w.heap.size + 1, j, none⟩ = (#[.int .i64 c.id, a, b, d] : Array Value)[j]?)) (first | (with_reducible exact ⟨rowc RA.out, rowc RB.out⟩) | (with_reducible exact ⟨rowc_drew RA.out, rowc_drew RB.out⟩) | (with_reducible exact ⟨rowc_alloc RA.out _, rowc_alloc RB.out _⟩) | (with_reducible exact ⟨rowc_alloc_drew RA.out _, rowc_alloc_drew RB.out _⟩) | ((with_reducible refine ⟨rowc_set9 RA.out ?_ _ _ _ _ _ _ _ _ _, rowc_set9 RB.out ?_ _ _ _ _ _ _ _ _ _⟩) <;> omega))
      (first
      | (go_at_call 9; (with_reducible refine (HOL.out _ ?_).mono ?_); (focus (first | (with_reducible exact (Hbw.out.trans (HB.out.mono Hbw.out.size))) | (with_reducible exact (Hbw.out.trans (HB.out.mono Hbw.out.size)).drew) | (with_reducible exact (Hbw.out.trans (HB.out.mono Hbw.out.size)).alloc (Hbw.out.trans (HB.out.mono Hbw.out.size)).size _) | (with_reducible exact ((Hbw.out.trans (HB.out.mono Hbw.out.size)).alloc (Hbw.out.trans (HB.out.mono Hbw.out.size)).size _).drew))); rintro e w9 ⟨⟨u1, rfl, hu1⟩, hb9⟩; (first | ((with_reducible have hq := rows1 hb9); obtain ⟨rG, hbs, hl⟩ := hq; have cG := rowc rG; have fG := rowf rG; have RG := Lib.hid rG; have hgz := HB.out.size; clear rG hl) | ((with_reducible have hq := rows1d hb9); obtain ⟨rG, hbs, hl⟩ := hq; have cG := rowc rG; have fG := rowf rG; have RG := Lib.hid rG; have hgz := HB.out.size; clear rG hl) | ((with_reducible have hbs := drew_first hb9); try (replace RG := Lib.hid (row_keep hbs RG.out); replace cG := rowc RG.out; replace fG := rowf RG.out)) | (have hbs := hb9; try (replace RG := Lib.hid (row_keep hbs RG.out); replace cG := rowc RG.out; replace fG := rowf RG.out))); have hU1 := hu1; replace RA := Lib.hid (row_keep hbs RA.out); replace RB := Lib.hid (row_keep hbs RB.out); (try (replace HU1 := Lib.hid (HU1.out.below hbs (Nat.le_refl _)))); (try (replace HU2 := Lib.hid (HU2.out.below hbs (Nat.le_refl _)))); replace HB := Lib.hid (HB.out.trans (hbs.mono HB.out.size)); clear hb9 hbs; have HU1 := Lib.hid hU1; clear hu1 hU1)
      | (go_at_call 10; (with_reducible refine (HOC.out _ ?_).mono ?_); (focus (first | (with_reducible exact (Hbw.out.trans (HB.out.mono Hbw.out.size))) | (with_reducible exact (Hbw.out.trans (HB.out.mono Hbw.out.size)).drew) | (with_reducible exact (Hbw.out.trans (HB.out.mono Hbw.out.size)).alloc (Hbw.out.trans (HB.out.mono Hbw.out.size)).size _) | (with_reducible exact ((Hbw.out.trans (HB.out.mono Hbw.out.size)).alloc (Hbw.out.trans (HB.out.mono Hbw.out.size)).size _).drew))); rintro e w9 ⟨⟨u2, rfl, hu2, hr2⟩, hb9⟩; (first | ((with_reducible have hq := rows1 hb9); obtain ⟨rG, hbs, hl⟩ := hq; have cG := rowc rG; have fG := rowf rG; have RG := Lib.hid rG; have hgz := HB.out.size; clear rG hl) | ((with_reducible have hq := rows1d hb9); obtain ⟨rG, hbs, hl⟩ := hq; have cG := rowc rG; have fG := rowf rG; have RG := Lib.hid rG; have hgz := HB.out.size; clear rG hl) | ((with_reducible have hbs := drew_first hb9); try (replace RG := Lib.hid (row_keep hbs RG.out); replace cG := rowc RG.out; replace fG := rowf RG.out)) | (have hbs := hb9; try (replace RG := Lib.hid (row_keep hbs RG.out); replace cG := rowc RG.out; replace fG := rowf RG.out))); have hU2 := hu2; replace RA := Lib.hid (row_keep hbs RA.out); replace RB := Lib.hid (row_keep hbs RB.out); (try (replace HU1 := Lib.hid (HU1.out.below hbs (Nat.le_refl _)))); (try (replace HU2 := Lib.hid (HU2.out.below hbs (Nat.le_refl _)))); replace HB := Lib.hid (HB.out.trans (hbs.mono HB.out.size)); clear hb9 hbs; have HU2 := Lib.hid hU2; clear hu2 hU2 hr2)
      | (go_at_call 14; (with_reducible refine (HOf.out _ _ _ ?_ ?_ ?_).mono ?_); (focus (first | (with_reducible exact (Hbw.out.trans (HB.out.mono Hbw.out.size))) | (with_reducible exact (Hbw.out.trans (HB.out.mono Hbw.out.size)).drew) | (with_reducible exact (Hbw.out.trans (HB.out.mono Hbw.out.size)).alloc (Hbw.out.trans (HB.out.mono Hbw.out.size)).size _) | (with_reducible exact ((Hbw.out.trans (HB.out.mono Hbw.out.size)).alloc (Hbw.out.trans (HB.out.mono Hbw.out.size)).size _).drew))); (focus (first | exact HU1.out | exact HU1.out.below (Below.refl _ _).drew (Nat.le_refl _) | exact HU1.out.below ((Below.refl _ _).alloc (Nat.le_refl _) _) (Nat.le_refl _) | exact HU1.out.below ((Below.refl _ _).alloc (Nat.le_refl _) _).drew (Nat.le_refl _))); (focus (first | exact HU2.out | exact HU2.out.below (Below.refl _ _).drew (Nat.le_refl _) | exact HU2.out.below ((Below.refl _ _).alloc (Nat.le_refl _) _) (Nat.le_refl _) | exact HU2.out.below ((Below.refl _ _).alloc (Nat.le_refl _) _).drew (Nat.le_refl _))); rintro e w9 ⟨rfl, hb9⟩; (first | ((with_reducible have hq := rows1 hb9); obtain ⟨rG, hbs, hl⟩ := hq; have cG := rowc rG; have fG := rowf rG; have RG := Lib.hid rG; have hgz := HB.out.size; clear rG hl) | ((with_reducible have hq := rows1d hb9); obtain ⟨rG, hbs, hl⟩ := hq; have cG := rowc rG; have fG := rowf rG; have RG := Lib.hid rG; have hgz := HB.out.size; clear rG hl) | ((with_reducible have hbs := drew_first hb9); try (replace RG := Lib.hid (row_keep hbs RG.out); replace cG := rowc RG.out; replace fG := rowf RG.out)) | (have hbs := hb9; try (replace RG := Lib.hid (row_keep hbs RG.out); replace cG := rowc RG.out; replace fG := rowf RG.out))); replace RA := Lib.hid (row_keep hbs RA.out); replace RB := Lib.hid (row_keep hbs RB.out); (try (replace HU1 := Lib.hid (HU1.out.below hbs (Nat.le_refl _)))); (try (replace HU2 := Lib.hid (HU2.out.below hbs (Nat.le_refl _)))); replace HB := Lib.hid (HB.out.trans (hbs.mono HB.out.size)); clear hb9 hbs))
    all_goals (go_wp2_with fail; go_meet)
    all_goals first
      | (refine ⟨_, rfl, ?_, rfl, ?_⟩; (focus (with_reducible exact heap_alloc_new _ _)); (focus (with_reducible exact HB.out.alloc HB.out.size _)))
      | (refine ⟨_, rfl, ?_, rfl, ?_⟩; (focus (with_reducible exact row_set9 RG.out rfl _ _ _ _ _ _ _ _ _)); (focus (with_reducible exact below_set9 HB.out _ hgz _ _ _ _ _ _ _ _ _)))
  case rest =>
  obtain ⟨gW, rfl, rW, rfl, hbx⟩ := hcut
  have RW := Lib.hid rW
  clear cA cB rW
  replace RT := Lib.hid (row_keep hbx RT.out); replace Hbw := Lib.hid (Hbw.out.trans (hbx.mono Hbw.out.size))
  clear hbx
  have cT := rowc RT.out; have fT := rowf RT.out; have cW := rowc RW.out; have fW := rowf RW.out
  have he := He.out
  go_wp2_with fail
  go_ret
  exact ⟨rfl, Hbw.out⟩
theorem pageTwice_law {w : World} (vf : Value) (f : Lf) (hf : IsLf w vf f) (fo : f.Ok) (vc : Value) (c : Col) (hc : IsCol w vc c) (co : c.Ok) (cr : c.Reach) (s : ByteArray) (hs : s.size ≤ maxLen) (hL : laidMetH Tryd.prog Rows.pageTwiceRow.laid w) :
    Calls Tryd.prog 4 #[vf, vc, .string s] w fun e w' => e = .returned (.bool true) ∧ Below w.heap.size w w' := by
  obtain ⟨adr, hE⟩ := errsAt_of_laid2 [1, 2, 3, 4, 7] rfl (by intro k hk; simp only [List.mem_cons, List.not_mem_nil, or_false] at hk; rcases hk with rfl | rfl | rfl | rfl | rfl <;> exact ⟨by kernel_rfl, by kernel_rfl⟩) hL
  by_cases hn : colErr f c false = .nil ∧ c.rep ≠ []
  · exact pt_ok f c s hs vf vc w adr hE hf hc fo co cr hn.1 hn.2
  · exact pt_none f c s hs vf vc w adr hE hf hc fo co cr hn
end Go.Proofs.YtaebhilgmmfalaaDoor
