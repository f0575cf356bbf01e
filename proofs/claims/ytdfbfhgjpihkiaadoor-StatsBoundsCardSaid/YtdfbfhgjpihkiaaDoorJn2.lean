/- The walk of shred.Join where a column is none of the leaf's. -/
import Derived.Test.YtdfbfhgjpihkiaaDoorJn1
namespace Go.Proofs.YtdfbfhgjpihkiaaDoor
set_option linter.unusedVariables false
set_option linter.unusedSimpArgs false
open Go Go.RowKit Go.ChangeShapes

theorem err_iface {w : World} {adr : Nat → Addr} {e : GErr} {u : Value} (h : IsErr w adr e u) (hn : e.isNil = false) : ∃ T p, u = .iface T p := by
  cases e with
  | nil => cases hn
  | sent k => exact ⟨_, _, h.2.2⟩
  | fault k p => obtain ⟨-, -, b, h, -⟩ := h; exact ⟨_, _, h⟩
theorem IsErr.off {w w' : World} {adr : Nat → Addr} {e : GErr} {u : Value} (h : IsErr w adr e u) {g : Nat} {c : Value} (hg : w.cell? ⟨g, 1, none⟩ = some c) (hc : ∀ T p, c ≠ .iface T p) (hk : ∀ b, b ≠ g → w'.heap[b]? = w.heap[b]?) : IsErr w' adr e u := by
  cases e with
  | nil => exact h
  | sent k => exact h
  | fault k p =>
    obtain ⟨h1, h2, b, h3, h4, h5⟩ := h
    have hb : b ≠ g := by
      intro e
      subst e
      rw [hg] at h5
      exact hc _ _ (Option.some.inj h5)
    exact ⟨h1, h2, b, h3, (World.cell?_of_block (a := ⟨b, 0, none⟩) (hk b hb)).trans h4, (World.cell?_of_block (a := ⟨b, 1, none⟩) (hk b hb)).trans h5⟩
def JnErr (adr : Nat → Addr) (g : GErr) (e : Ending) (w' : World) : Prop := ∃ u, e = .returned (.tuple #[.agg #[.int .i64 0, .slice none 0 0, .slice none 0 0, .slice none 0 0], u]) ∧ IsErr w' adr g u
set_option maxRecDepth 100000 in
set_option maxHeartbeats 16000000 in
theorem join_bad (f : Lf) (l : List Col) (vf v : Value) (w : World) (adr : Nat → Addr) (hE : ErrsAt w adr [2, 3, 4]) (hf : IsLf w vf f) (hl : IsCols w v l) (fo : f.Ok) (lo : ∀ c ∈ l, c.Ok) (hlm : l.length ≤ 1000000) (K : Nat) (hKl : K < l.length) (hn : ∀ (j : Nat) (c : Col), j < K → l[j]? = some c → colErr f c false = .nil) (hbad : (colErr f l[K] false).isNil = false) :
    Calls Tryd.prog 12 #[vf, v] w fun e w' => JnErr adr (colErr f l[K] false) e w' ∧ Below w.heap.size w w' := by
  have hg2 : gErr 2 < w.heap.size := block_lt_of_cell (hE.cell 2 (by decide))
  have e2 := hE.cell 2 (by decide)
  unfold gErr at hg2 e2
  have HK2 := Lib.hid (fun (w1 : World) (h : Below w.heap.size w w1) => ((bcell h).1 _ 0 hg2).trans e2)
  clear e2
  obtain ⟨p, rfl, hp⟩ := hf
  have HE := Lib.hid hE; have Hp := Lib.hid hp; have HI := Lib.hid hl
  have HK := Lib.hid (fun (w1 : World) (h : Below w.heap.size w w1) (c : Col) (a b d : Value) (hc : IsCol w1 (.agg (colA c a b d)) c) (co : c.Ok) => ck_any f c false (.agg (lfA f p)) (.agg (colA c a b d)) w1 adr ((HE.out.sub (by decide)).below h) ⟨p, rfl, Hp.out.below h (Nat.le_refl _)⟩ hc fo co)
  have HO := Lib.hid lo; have HN := Lib.hid hn
  obtain ⟨ad, cp, rfl⟩ := hl.form
  have HKl := Lib.hid hKl; have HBad := Lib.hid hbad
  clear hE hp hl fo lo hn
  obtain ⟨n, hnl⟩ : ∃ n, l.length = n := ⟨_, rfl⟩
  rw [hnl] at HI hlm hKl
  have HL := Lib.hid hnl
  have hKn := hKl
  clear hnl hKl hbad
  unfold lfA colA at HK
  unfold lfA
  go_enter Tryd.func12, Tryd.ntmps12
  go_upto_region 2 with fail
  obtain ⟨rF, rR, rO, hbw, hz⟩ := rows3 (w := w) (A := .cells #[.int .i64 f.id, .int .i64 f.kind, .int .i64 f.mr, .int .i64 f.md, p] 38) (B := .cells #[.int .i64 0, .slice none 0 0, .slice none 0 0, .slice none 0 0] 27) (C := .cells #[.int .i64 f.id, .slice none 0 0, .slice none 0 0, .slice none 0 0] 27) (Below.refl _ _)
  have RF := Lib.hid rF; have RR := Lib.hid rR; have RO := Lib.hid rO; have Hbw := Lib.hid hbw
  clear rF rR rO hbw hz
  generalize ((w.alloc (.cells #[.int .i64 f.id, .int .i64 f.kind, .int .i64 f.mr, .int .i64 f.md, p] 38)).alloc (.cells #[.int .i64 0, .slice none 0 0, .slice none 0 0, .slice none 0 0] 27)).alloc (.cells #[.int .i64 f.id, .slice none 0 0, .slice none 0 0, .slice none 0 0] 27) = w0 at *
  go_wp2_with fail
  go_loopw [17] (fun i wr => ∃ k : Nat, k ≤ K ∧ i = .int .i64 (k : Nat) ∧ Below w.heap.size w wr ∧ wr.heap[w.heap.size]? = some (.cells #[.int .i64 f.id, .int .i64 f.kind, .int .i64 f.mr, .int .i64 f.md, p] 38 (0, 0)) ∧ wr.heap[w.heap.size + 1]? = some (.cells #[.int .i64 0, .slice none 0 0, .slice none 0 0, .slice none 0 0] 27 (0, 0)) ∧ wr.heap[w.heap.size + 1 + 1]? = some (.cells #[.int .i64 f.id, .slice none 0 0, .slice none 0 0, .slice none 0 0] 27 (0, 0))) (fun i _ => K + 1 - (intOf i).toNat)
  case atStart => exact ⟨0, Nat.zero_le _, rfl, Hbw.out, RF.out, RR.out, RO.out⟩
  case round =>
    obtain ⟨k, hk, rfl, hbr, rF, rR, rO⟩ := hrel
    clear RF RR RO Hbw
    have RF := Lib.hid rF; have RR := Lib.hid rR; have RO := Lib.hid rO; have Hbw := Lib.hid hbr
    clear rF rR rO hbr
    have hkn : k < n := by omega
    have hkl : k < l.length := by rw [HL.out]; exact hkn
    obtain ⟨b0, off, rfl, -, hlt0, hcv⟩ := (HI.out.below Hbw.out (Nat.le_refl _)).at (by omega)
    have hin : (k : Int) < (n : Int) := by omega
    have Hkn := Lib.hid hkn
    obtain ⟨pc, qc, dc, i1, i2, i3, hcx⟩ := hcv k l[k] (List.getElem?_eq_getElem hkl)
    have hox := HO.out l[k] (List.getElem_mem hkl)
    have hnx : k < K → colErr f l[k] false = .nil := fun h => HN.out k l[k] h (List.getElem?_eq_getElem hkl)
    have hbx : k = K → colErr f l[k] false = colErr f (l[K]'HKl.out) false := fun h => by subst h; rfl
    generalize l[k] = c at *
    obtain ⟨x1, y1, rfl⟩ := i1.form; obtain ⟨x2, y2, rfl⟩ := i2.form; obtain ⟨x3, y3, rfl⟩ := i3.form
    have I1 := Lib.hid i1; have I2 := Lib.hid i2; have I3 := Lib.hid i3; have Hcx := Lib.hid hcx; have Hox := Lib.hid hox; have Hnx := Lib.hid hnx; have Hbx := Lib.hid hbx
    clear i1 i2 i3 hcx hox hnx hbx hcv hkl
    unfold colA at Hcx
    go_upto_region 5 with (refine wpList_load_cells rfl 27 _ rfl b0 (off + k * 4) rfl #[.int .i64 c.id, .slice x1 c.rep.length y1, .slice x2 c.df.length y2, .slice x3 c.vals.length y3] _ Hcx.out Tryd.underlying27 rfl col_info ?_)
    have hb3 := (Below.refl wr.heap.size wr).alloc (Nat.le_refl _) (.cells #[.int .i64 c.id, .slice x1 c.rep.length y1, .slice x2 c.df.length y2, .slice x3 c.vals.length y3] 27)
    replace RF := Lib.hid (row_keep hb3 RF.out); replace RR := Lib.hid (row_keep hb3 RR.out); replace RO := Lib.hid (row_keep hb3 RO.out)
    have RC := Lib.hid (heap_alloc_new wr (.cells #[.int .i64 c.id, .slice x1 c.rep.length y1, .slice x2 c.df.length y2, .slice x3 c.vals.length y3] 27))
    replace I1 := Lib.hid (I1.out.below hb3 (Nat.le_refl _)); replace I2 := Lib.hid (I2.out.below hb3 (Nat.le_refl _)); replace I3 := Lib.hid (I3.out.below hb3 (Nat.le_refl _))
    replace Hbw := Lib.hid (Hbw.out.trans (hb3.mono Hbw.out.size))
    clear hb3
    generalize wr.alloc (.cells #[.int .i64 c.id, .slice x1 c.rep.length y1, .slice x2 c.df.length y2, .slice x3 c.vals.length y3] 27) = w3 at *
    generalize wr.heap.size = gc at *
    have cC := rowc RC.out; have cF := rowc RF.out
    go_wp2_with fail
    refine (HK.out _ Hbw.out c _ _ _ ⟨_, _, _, rfl, I1.out, I2.out, I3.out⟩ Hox.out).mono ?_; rintro e w4 ⟨⟨u, rfl, hu⟩, hb4⟩
    by_cases hlt : k < K
    · rw [Hnx.out hlt] at hu
      obtain rfl : u = .nilIface := hu
      replace RF := Lib.hid (row_keep hb4 RF.out); replace RR := Lib.hid (row_keep hb4 RR.out); replace RO := Lib.hid (row_keep hb4 RO.out); replace Hbw := Lib.hid (Hbw.out.trans (hb4.mono Hbw.out.size))
      have Hlt := Lib.hid hlt
      clear hb4 cC cF hlt
      go_wp2_with fail
      go_roundw
      case rel => exact ⟨k + 1, Hlt.out, by go_num, Hbw.out, RF.out, RR.out, RO.out⟩
      case measure => have := Hlt.out; simp [intOf]; omega
    · have hkK : k = K := by omega
      rw [Hbx.out hkK] at hu
      have HU := Lib.hid hu
      obtain ⟨T, q, rfl⟩ := err_iface hu HBad.out
      replace RR := Lib.hid (row_keep hb4 RR.out); replace Hbw := Lib.hid (Hbw.out.trans (hb4.mono Hbw.out.size))
      have cR := rowc RR.out; have fR := rowf RR.out
      clear hb4 cC cF hlt hu hkK
      go_wp2_with fail
      refine bodyPost_ret (v := .tuple #[.agg #[.int .i64 0, .slice none 0 0, .slice none 0 0, .slice none 0 0], .iface T q]) ?_ rfl ⟨⟨_, rfl, ?_⟩, ?_⟩
      focus (refine results_row_tmp Tryd.results12 _ _ (w.heap.size + 1) 27 _ (0, 0) _ rfl ?_ Tryd.underlying27 rfl (by kernel_rfl); with_reducible exact row_set4 RR.out rfl _ _ _ _)
      focus (exact HU.out.off (c := .slice none 0 0) (rowc RR.out 1) (fun _ _ h => by cases h) (fun b hb => set4_other hb _ _ _ _))
      focus (with_reducible exact below_set4 Hbw.out _ (Nat.le_succ _) _ _ _ _)
end Go.Proofs.YtdfbfhgjpihkiaaDoor
