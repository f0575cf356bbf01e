/- The walk of auto.lists. -/
import Derived.Test.YtfmdahfolnljkaaDoorTv5
import Derived.Test.YtfmdahfolnljkaaDoorTa0
import Derived.Test.YtfmdahfolnljkaaDoorRegE
import Derived.Deep.DeepCutAuto
namespace Go.Proofs.YtfmdahfolnljkaaDoor
set_option linter.unusedVariables false
set_option linter.unusedSimpArgs false
open Go Go.RowKit Go.ChangeShapes

/-- a slice of numbers in a block of numbers -/
def IntsT (w : World) (v : Value) (l : List Int) : Prop := IsInts w v l ∧ (l = [] ∨ ∃ (g o n c : Nat) (cs : Array Value) (fz : Nat × Nat), v = .slice (some ⟨g, o, none⟩) n c ∧ w.heap[g]? = some (.cells cs 3 fz))
theorem IntsT.nil (w : World) : IntsT w (.slice none 0 0) [] := ⟨.inl ⟨rfl, none, 0, rfl⟩, .inl rfl⟩
theorem IntsT.keep {w w' : World} {v : Value} {l : List Int} (h : IntsT w v l) (hz : w.heap.size ≤ w'.heap.size) (hk : ∀ (g : Nat) (cs : Array Value) (fz : Nat × Nat), w.heap[g]? = some (.cells cs 3 fz) → w'.heap[g]? = some (.cells cs 3 fz)) : IntsT w' v l := by
  obtain ⟨h1, h2⟩ := h
  rcases h2 with rfl | ⟨g, o, n, c, cs, fz, rfl, hg⟩
  · rcases h1 with h1 | ⟨b, off, cap, hv, hlt, hc⟩
    · exact ⟨.inl h1, .inl rfl⟩
    · exact ⟨.inl ⟨rfl, _, _, hv⟩, .inl rfl⟩
  · have hg' := hk g cs fz hg
    rcases h1 with h1 | ⟨b, off, cap, hv, hlt, hc⟩
    · exact ⟨.inl h1, .inr ⟨g, o, n, c, cs, fz, rfl, hg'⟩⟩
    · injection hv with e1 e2 e3
      injection e1 with e1
      injection e1 with e1 e4 e5
      subst e1 e4
      refine ⟨.inr ⟨g, o, cap, by rw [e2, e3], by omega, fun j x hj => ?_⟩, .inr ⟨g, o, n, c, cs, fz, rfl, hg'⟩⟩
      rw [World.cell?_of_block (w := w) (w' := w') (a := ⟨g, o + j, none⟩) (hg'.trans hg.symm)]
      exact hc j x hj
theorem IntsT.below {w w' : World} {v : Value} {l : List Int} (h : IntsT w v l) (hb : Below w.heap.size w w') : IntsT w' v l := h.keep hb.size fun g cs fz hg => row_keep hb hg
theorem IntsT.of_own {w : World} {B : Nat} {v : Value} {l : List Int} (h : w.ownsRow B 3 1 v l.length (l.map intN)) : IntsT w v l := by
  refine ⟨IsNums.of_own (B := B) (e := 3) h, ?_⟩
  rcases h.2 with ⟨h1, h0⟩ | ⟨g, cap, cur, hv, h1, h2, h3⟩
  · exact .inl (List.eq_nil_of_length_eq_zero h0)
  · exact .inr ⟨g, 0, _, cap, cur, _, hv, h2⟩
/-- such a slice as a row's cell -/
def rwC (p : List Int × Value) : Value := cell1 p.2
theorem rwC_one (p : List Int × Value) : (rwC p).oneCell' = true := cell1_one _
theorem rw_info : (Tryd.prog.info? 39).map (fun i => (i.zero, i.size, i.bytes)) = some (some (.slice none 0 0), 1, 24) := by kernel_rfl
/-- rows of numbers in memory -/
def RowsAt (B : Nat) (w : World) (v : Value) (LR : List (List Int × Value)) : Prop := w.ownsRow B 39 1 v LR.length (LR.map rwC) ∧ ∀ p ∈ LR, IntsT w p.2 p.1
theorem RowsAt.below {B : Nat} {w w' : World} {v : Value} {LR : List (List Int × Value)} (h : RowsAt B w v LR) (hb : Below w.heap.size w w') : RowsAt B w' v LR := ⟨own_blw h.1 hb, fun p hp => (h.2 p hp).below hb⟩
def ListsRet (P : List (List Int)) (w : World) (e : Ending) (w' : World) : Prop := ∃ v LR, e = .returned v ∧ RowsAt w.heap.size w' v LR ∧ LR.map Prod.fst = P ∧ Below w.heap.size w w'
/-- append of numbers to a row of the call's own, at an operation -/
theorem wp_appT {w : World} {o : Oper} {a : Act} {K : Act → World → Prop} {Q : Exit → Act → World → Prop} (s x : Operand)
    (ho : o.op = .call { callee := .builtin .append, args := #[s, x], argTypes := #[39, 39] }) (B : Nat) (v : Value) (l0 : List Int) (hs : a.eval s = v) (hown : w.ownsRow B 3 1 v l0.length (l0.map intN))
    (u : Value) (l : List Int) (hx : a.eval x = u) (hI : IsInts w u l) (h8 : (l0.length + l.length) * 8 ≤ 140737488355328) (hB : B ≤ w.heap.size)
    (h : ∀ v' w', w'.ownsRow B 3 1 v' (l0 ++ l).length ((l0 ++ l).map intN) → w.grownBy w' v.ownBlock → K (a.put o.dst v') w') : Oper.wp Tryd.prog o a w K Q := by
  obtain ⟨i0, hi, hz0, hz1, hz2⟩ := info_parts info_intN
  rcases hI with ⟨rfl, ad, cap, rfl⟩ | ⟨b, off, cap, rfl, hlt, hc⟩
  · have hcap : ∃ vb vc, v = .slice vb l0.length vc ∧ l0.length ≤ vc := by
      rcases hown.2 with ⟨h1, h0⟩ | ⟨g, cap, cur, h1, _, _, h3, _⟩
      · exact ⟨none, 0, by rw [h1, h0], by omega⟩
      · exact ⟨_, cap, h1, h3⟩
    obtain ⟨vb, vc, rfl, hvc⟩ := hcap
    unfold Oper.wp execOp
    have hr := run_append_none (P := Tryd.prog) w 39 o.type 3 0 i0 Tryd.underlying39 hi vb l0.length vc ad cap hvc
    simp only [ho, resolve, invoke, builtin, Sem.run_bind, Sem.run_pure, Result.andThen_ok, List.map_toArray, List.map_cons, List.map_nil, hs, hx, hr]
    exact h _ _ (by simpa using hown) ⟨rfl, rfl, rfl, Nat.le_refl _, fun _ _ _ => rfl⟩
  · obtain ⟨v', w', hr, h2, h3, _, h5⟩ := run_append_own_at (P := Tryd.prog) w B 39 o.type 3 i0 (.int .i64 0) 1 8 Tryd.underlying39 hi hz0 hz1 hz2 rfl (by decide) v l0.length _ hown ⟨b, off, none⟩ l.length cap (l.map intN) (by simp) (by
        intro j u hj
        rw [List.getElem?_map] at hj
        cases hlj : l[j]? with
        | none => simp [hlj] at hj
        | some x =>
          simp [hlj] at hj
          subst hj
          rw [Go.WideShapes.add_plain]; exact hc j x hlj) (one_map (fun _ => rfl) l) (by unfold maxLen; omega) h8 hB
    unfold Oper.wp execOp
    simp only [ho, resolve, invoke, builtin, Sem.run_bind, Sem.run_pure, Result.andThen_ok, List.map_toArray, List.map_cons, List.map_nil, hs, hx, hr]
    exact h v' w' (by simpa using h2) h3
/-- rows appended to rows -/
theorem wpList_appR {w : World} {ops : Array Oper} {rest : List Oper} {o : Oper} {a : Act} {Q : Exit → Act → World → Prop} (hgd : o.guard = none) (s x : Operand)
    (ho : o.op = .call { callee := .builtin .append, args := #[s, x], argTypes := #[28, 28] }) (B : Nat) (v : Value) (l0 : List (List Int × Value)) (hs : a.eval s = v) (hown : w.ownsRow B 39 1 v l0.length (l0.map rwC))
    (B2 : Nat) (u : Value) (l : List (List Int × Value)) (hx : a.eval x = u) (hI : w.ownsRow B2 39 1 u l.length (l.map rwC)) (h8 : (l0.length + l.length) * 24 ≤ 140737488355328) (hB : B ≤ w.heap.size)
    (h : ∀ v' w', w'.ownsRow B 39 1 v' (l0 ++ l).length ((l0 ++ l).map rwC) → w.grownBy w' v.ownBlock → wpList Tryd.prog ops Q rest (a.put o.dst v') w') : wpList Tryd.prog ops Q (o :: rest) a w := by
  obtain ⟨i0, hi, hz0, hz1, hz2⟩ := info_parts rw_info
  refine wpList_plain hgd fun K hK => ?_
  rcases hI.2 with ⟨rfl, h0⟩ | ⟨g, cap, cur, rfl, hBg, hg, _⟩
  · have hl : l = [] := List.eq_nil_of_length_eq_zero h0
    subst hl
    have hcap : ∃ vb vc, v = .slice vb l0.length vc ∧ l0.length ≤ vc := by
      rcases hown.2 with ⟨h1, h0⟩ | ⟨g, cap, cur, h1, _, _, h3, _⟩
      · exact ⟨none, 0, by rw [h1, h0], by omega⟩
      · exact ⟨_, cap, h1, h3⟩
    obtain ⟨vb, vc, rfl, hvc⟩ := hcap
    unfold Oper.wp execOp
    have hr := run_append_none (P := Tryd.prog) w 28 o.type 39 0 i0 Tryd.underlying28 hi vb l0.length vc none 0 hvc
    simp only [ho, resolve, invoke, builtin, Sem.run_bind, Sem.run_pure, Result.andThen_ok, List.map_toArray, List.map_cons, List.map_nil, hs, hx, hr]
    exact hK _ _ (h _ _ (by simpa using hown) ⟨rfl, rfl, rfl, Nat.le_refl _, fun _ _ _ => rfl⟩)
  · obtain ⟨v', w', hr, h2, h3, _, h5⟩ := run_append_own_at (P := Tryd.prog) w B 28 o.type 39 i0 (.slice none 0 0) 1 24 Tryd.underlying28 hi hz0 hz1 hz2 rfl (by decide) v l0.length _ hown ⟨g, 0, none⟩ l.length cap (l.map rwC) (by simp) (by
        intro j u hj
        have hjl : j < l.length := by have := (List.getElem?_eq_some_iff.1 hj).1; simpa using this
        rw [Go.WideShapes.add_plain, Nat.zero_add, hI.cellAt j (by omega), hj]) (one_map rwC_one l) (by unfold maxLen; omega) h8 hB
    unfold Oper.wp execOp
    simp only [ho, resolve, invoke, builtin, Sem.run_bind, Sem.run_pure, Result.andThen_ok, List.map_toArray, List.map_cons, List.map_nil, hs, hx, hr]
    exact hK _ _ (h v' w' (by simpa using h2) h3)
theorem lsL_len : (∀ n, ∀ p, (lsN n p).length ≤ size n) ∧ ∀ l, ∀ p, (lsL l p).length ≤ sizeL l := by
  refine tree2 (fun n h p => ?_) (fun p => Nat.le_refl _) (fun x r h1 h2 p => ?_)
  · rw [lsN_eq, size_eq]
    split
    · have := h (if n.rep = 3 then p ++ [n.id] else p); omega
    · simp
  · simp only [lsL, sizeL, List.length_append]
    have := h1 p; have := h2 p; omega
theorem lsL_app (a b : List Nd) (p : List Int) : lsL (a ++ b) p = lsL a p ++ lsL b p := by
  induction a with
  | nil => rfl
  | cons x r ih => simp only [List.cons_append, lsL, ih, List.append_assoc]
theorem sizeL_app (a b : List Nd) : sizeL (a ++ b) = sizeL a + sizeL b := by
  induction a with
  | nil => simp [sizeL]
  | cons x r ih => simp only [List.cons_append, sizeL, ih]; omega
theorem grown_row0 {w w' : World} {B s n b : Nat} {e T : TypeId} {v : Value} {xs : List Value} {cs : Array Value} {fr : Nat × Nat} (hown : w.ownsRow B e s v n xs) (hg : w.grownBy w' v.ownBlock) (hb : w.heap[b]? = some (.cells cs T fr)) (he : T ≠ e) :
    w'.heap[b]? = some (.cells cs T fr) := (hg.block b (row_lt hb) (fun e1 => own_neB hown hb he e1.symm)).trans hb
theorem hgt_mem {x : Nd} {l : List Nd} (h : x ∈ l) : hgt x ≤ hgtL l := by
  induction l with
  | nil => cases h
  | cons y r ih =>
    simp only [hgtL]
    rcases List.mem_cons.1 h with rfl | h
    · omega
    · have := ih h; omega

set_option maxRecDepth 100000 in
set_option maxHeartbeats 16000000 in
theorem lists_any : ∀ (n : Nd), ∀ (u va : Value) (p : List Int) (w : World), IsNds (· < w.heap.size) w u n.sub → (∀ x ∈ nodes n, x.Ok1) → IntsT w va p → p.length + hgt n ≤ 1000 → size n ≤ 1000 →
    Calls Tryd.prog 25 #[.agg (ndA n u), va] w (ListsRet (lsL n.sub p) w) := by
  apply Nd.ind
  intro n IH u va p w hN hO hP hh hs
  have hOs : ∀ x ∈ nodesL n.sub, x.Ok1 := fun x hx => hO x (by rw [nodes_eq]; exact List.mem_cons_of_mem _ hx)
  have hlen := (hO n (by rw [nodes_eq]; exact List.mem_cons_self ..)).sub
  rw [hgt_eq] at hh
  rw [size_eq] at hs
  obtain ⟨l, hl⟩ : ∃ l, n.sub = l := ⟨_, rfl⟩
  obtain ⟨ad, cp, rfl⟩ := hN.form
  rw [hl] at hN hlen hOs IH hh hs ⊢
  obtain ⟨len, hnl⟩ : ∃ len, l.length = len := ⟨_, rfl⟩
  rw [hnl] at hN hlen ⊢
  obtain ⟨pa, pc, rfl⟩ := hP.1.form
  have HL := Lib.hid hnl; have HN := Lib.hid hN; have HOs := Lib.hid hOs; have HIH := Lib.hid IH; have HP := Lib.hid hP; have HH := Lib.hid hh; have HS := Lib.hid hs
  clear hnl hl hN hOs IH hO hP hh hs
  obtain ⟨i0, hi, hz0, hz1, hz2⟩ := info_parts info_intN
  obtain ⟨i1, hj, hy0, hy1, hy2⟩ := info_parts rw_info
  have hw1 : Below w.heap.size w (w.alloc (.cells #[.int .i64 n.id, .string n.name, .int .i64 n.rep, .int .i64 n.kind, .slice ad len cp] 24)) := (Below.refl _ _).alloc (Nat.le_refl _) _
  have hr1 := heap_alloc_new w (.cells #[.int .i64 n.id, .string n.name, .int .i64 n.rep, .int .i64 n.kind, .slice ad len cp] 24)
  have HB := Lib.hid hw1; have RN := Lib.hid hr1
  clear hw1 hr1
  unfold ndA
  go_enter Tryd.func25, Tryd.ntmps25
  go_upto_region 1 with fail
  generalize w.alloc (.cells #[.int .i64 n.id, .string n.name, .int .i64 n.rep, .int .i64 n.kind, .slice ad len cp] 24) = w1 at *
  have cN := rowc RN.out
  go_wp2_with fail
  clear cN
  go_loopw [5, 12] (fun s5 i wr => ∃ (k : Nat) (v5 : Value) (LR : List (List Int × Value)), k ≤ len ∧ i = .int .i64 (k : Nat) ∧ v5 = s5 ∧ Hid (RowsAt (w.heap.size + 1) wr v5 LR) ∧ Hid (LR.map Prod.fst = lsL (l.take k) p) ∧ Hid (Below w.heap.size w wr) ∧ wr.heap[w.heap.size]? = some (.cells #[.int .i64 n.id, .string n.name, .int .i64 n.rep, .int .i64 n.kind, .slice ad len cp] 24 (0, 0))) (fun _ i _ => len - (intOf i).toNat)
  case atStart => exact ⟨0, _, [], Nat.zero_le _, rfl, rfl, ⟨World.ownsRow_nil _ _ _ _, fun q hq => by simp at hq⟩, rfl, HB.out, RN.out⟩
  case round =>
    obtain ⟨k, v5, LR, hk, rfl, hv5, HR, HM, HBr, rN⟩ := hrel
    subst hv5
    clear RN HB
    have RN := Lib.hid rN
    have hsz : w.heap.size + 1 ≤ wr.heap.size := row_lt rN
    clear rN
    by_cases hlt : k < len
    · have hkl : k < l.length := by rw [HL.out]; exact hlt
      obtain ⟨b0, off, rfl, hPb, hb0, hat⟩ := (HN.out.under HBr.out).at (by omega)
      obtain ⟨ux, hcx, hnx⟩ := hat k l[k] (List.getElem?_eq_getElem hkl)
      have hsn : l.take (k + 1) = l.take k ++ [l[k]] := List.take_succ_eq_append_getElem hkl
      have hOx : ∀ y ∈ nodes l[k], y.Ok1 := fun y hy => HOs.out y (nodesL_mem (List.getElem_mem hkl) hy)
      have hIx := HIH.out l[k] (List.getElem_mem hkl)
      have hhx := hgt_mem (List.getElem_mem hkl)
      have hzx : sizeL (l.take k) + size l[k] ≤ sizeL l := by
        have := sizeL_app (l.take k) (l.drop k); rw [List.take_append_drop, List.drop_eq_getElem_cons hkl] at this; simp only [sizeL] at this; omega
      have HHX := Lib.hid hhx; have HZX := Lib.hid hzx
      clear hhx hzx
      have hin : (k : Int) < (len : Int) := by omega
      have Hlt := Lib.hid hlt
      generalize l[k] = x at *
      obtain ⟨ax, cx, rfl⟩ := hnx.form
      obtain ⟨xl, hxl⟩ : ∃ xl, x.sub.length = xl := ⟨_, rfl⟩
      rw [hxl] at hcx hnx
      unfold NdAt ndA at hcx
      have HCX := Lib.hid hcx; have HNX := Lib.hid hnx; have HOX := Lib.hid hOx; have HIX := Lib.hid hIx; have HSN := Lib.hid hsn
      clear hat hkl hsn hnx hOx hIx hcx hPb hxl
      go_upto_region 6 with (refine wpList_load_cells rfl 24 _ rfl b0 (off + k * 5) rfl #[.int .i64 x.id, .string x.name, .int .i64 x.rep, .int .i64 x.kind, .slice ax xl cx] _ HCX.out Tryd.underlying24 rfl nd_info ?_)
      have hw2 : Below wr.heap.size wr (wr.alloc (.cells #[.int .i64 x.id, .string x.name, .int .i64 x.rep, .int .i64 x.kind, .slice ax xl cx] 24)) := (Below.refl _ _).alloc (Nat.le_refl _) _
      have hrx := heap_alloc_new wr (.cells #[.int .i64 x.id, .string x.name, .int .i64 x.rep, .int .i64 x.kind, .slice ax xl cx] 24)
      have HPX := Lib.hid ((HP.out.below (HBr.out.trans (hw2.mono HBr.out.size))))
      replace RN := Lib.hid (row_keep hw2 RN.out); replace HR := Lib.hid (HR.out.below hw2); replace HBr := Lib.hid (HBr.out.trans (hw2.mono HBr.out.size)); replace HNX := Lib.hid (HNX.out.under (hw2.mono (Nat.le_of_succ_le hsz))); have RX := Lib.hid hrx
      have hgx : wr.heap.size + 1 ≤ (wr.alloc (.cells #[.int .i64 x.id, .string x.name, .int .i64 x.rep, .int .i64 x.kind, .slice ax xl cx] 24)).heap.size := row_lt hrx
      generalize (wr.alloc (.cells #[.int .i64 x.id, .string x.name, .int .i64 x.rep, .int .i64 x.kind, .slice ax xl cx] 24)) = w2 at *
      generalize wr.heap.size = gx at *
      clear hw2 hrx
      have cX := rowc RX.out
      have HBX := Lib.hid (Below.refl w2.heap.size w2)
      go_upto_if 19 with (fail)
      go_cut [8] (fun s8 wx => ∃ (qa : Option Addr) (qc : Nat) (p' : List Int), s8 = .slice qa p'.length qc ∧ Hid (p' = if x.rep = 3 then p ++ [x.id] else p) ∧ IntsT wx (.slice qa p'.length qc) p' ∧ Below w2.heap.size w2 wx)
      case first =>
        by_cases h3 : x.rep = 3
        case neg =>
          have d3 : ((x.rep : Int) == 3) = false := by simpa using h3
          have H3 := Lib.hid h3
          clear h3
          go_wp2_with fail
          go_meet
          exact ⟨pa, pc, p, rfl, (if_neg H3.out).symm, HPX.out, Below.refl _ _⟩
        have d3 : ((x.rep : Int) == 3) = true := by simpa using h3
        have H3 := Lib.hid h3
        clear h3
        go_wp2_with fail
        refine AnyE.region (S := fun w' => ∀ j_1, w'.cell? ⟨gx, j_1, none⟩ = (#[.int .i64 x.id, .string x.name, .int .i64 x.rep, .int .i64 x.kind, .slice ax xl cx] : Array Value)[j_1]?) (E := []) (by kernel_rfl) ?_
        have hbd := (Below.refl w2.heap.size w2).drew
        replace RX := Lib.hid (row_keep hbd RX.out); replace HPX := Lib.hid (HPX.out.below hbd); replace HBX := Lib.hid (HBX.out.trans hbd)
        have hgd : w2.heap.size ≤ w2.drew.heap.size := Nat.le_refl _
        clear hbd cX
        generalize w2.drew = wd at *
        have hS := (rowc RX.out : ∀ j_1, wd.cell? ⟨gx, j_1, none⟩ = (#[.int .i64 x.id, .string x.name, .int .i64 x.rep, .int .i64 x.kind, .slice ax xl cx] : Array Value)[j_1]?)
        refine AnyE.take (i := 0) (v := ?_) rfl (by kernel_rfl) (by kernel_rfl) (by kernel_rfl) (by kernel_rfl) (by kernel_rfl) (fun _ _ _ h => h) (Or.inl ⟨by rfl, ?_⟩) hS ?_
        rotate_left
        focus (intro wq hSq; go_simp; with_reducible rfl)
        try simp only [Act.put, List.getElem_toArray, List.getElem_cons_succ, List.getElem_cons_zero, List.setIfInBounds_toArray, List.set_cons_zero, List.set_cons_succ]
        refine AnyE.take (i := 2) (v := ?_) rfl (by kernel_rfl) (by kernel_rfl) (by kernel_rfl) (by kernel_rfl) (by kernel_rfl) (fun _ _ _ h => h) (Or.inl ⟨by rfl, ?_⟩) hS ?_
        rotate_left
        focus (intro wq hSq; go_simp; with_reducible rfl)
        try simp only [Act.put, List.getElem_toArray, List.getElem_cons_succ, List.getElem_cons_zero, List.setIfInBounds_toArray, List.set_cons_zero, List.set_cons_succ]
        refine AnyE.take (i := 3) (v := ?_) rfl (by kernel_rfl) (by kernel_rfl) (by kernel_rfl) (by kernel_rfl) (by kernel_rfl) (fun _ _ _ h => h) (Or.inl ⟨by rfl, ?_⟩) hS ?_
        rotate_left
        focus (intro wq hSq; go_simp; with_reducible rfl)
        try simp only [Act.put, List.getElem_toArray, List.getElem_cons_succ, List.getElem_cons_zero, List.setIfInBounds_toArray, List.set_cons_zero, List.set_cons_succ]
        refine AnyE.two (i := 1) (j := 4) (by kernel_rfl) rfl rfl rfl rfl ?_ ?_
        · intro K hK
          simp only [List.getElem_toArray, List.getElem_cons_succ, List.getElem_cons_zero]
          refine wp_appT (.const (.slice none 0 0)) (.tmp 20) rfl w2.heap.size _ [] ?_ (World.ownsRow_nil _ _ _ _) _ p ?_ HPX.out.1 ?_ ?_ ?_
          focus (go_simp)
          focus (go_simp)
          focus (have := HH.out; simp only [List.length_nil]; omega)
          focus (omega)
          intro v1 w4 ho1 hg1
          rw [List.nil_append] at ho1
          obtain ⟨a1, c1, rfl⟩ := own_form ho1
          have hb1 : Below wd.heap.size wd w4 := (Below.refl wd.heap.size wd).grown hg1 (Nat.le_refl _) (fun k hk => by cases hk)
          replace RX := Lib.hid (row_keep hb1 RX.out); replace HPX := Lib.hid (HPX.out.below hb1); replace HBX := Lib.hid (HBX.out.trans (hb1.mono HBX.out.size))
          have hzhb1 := hb1.size
          have HO1 := Lib.hid ho1
          refine hK _ _ (fun _ => rowc RX.out) ?_
          clear hK K hS ho1 hg1
          try simp only [Act.put, List.getElem_toArray, List.getElem_cons_succ, List.getElem_cons_zero, List.setIfInBounds_toArray, List.set_cons_zero, List.set_cons_succ]
          have hS := (rowc RX.out : ∀ j_1, w4.cell? ⟨gx, j_1, none⟩ = (#[.int .i64 x.id, .string x.name, .int .i64 x.rep, .int .i64 x.kind, .slice ax xl cx] : Array Value)[j_1]?)
          refine AnyE.one (i := 4) (by kernel_rfl) rfl rfl ?_
          intro K hK
          simp only [List.getElem_toArray, List.getElem_cons_succ, List.getElem_cons_zero]
          go_simp
          have hbe := (Below.refl w4.heap.size w4).alloc (Nat.le_refl _) (.cells #[.int .i64 x.id] 3)
          have hlit := World.ownsRow_lit (base := w2.heap.size) (e := 3) (size := 1) w4 #[.int .i64 x.id] 1 (by omega) (by decide) rfl
          replace RX := Lib.hid (row_keep hbe RX.out); replace HPX := Lib.hid (HPX.out.below hbe); replace HBX := Lib.hid (HBX.out.trans (hbe.mono HBX.out.size))
          have hzhbe := hbe.size
          replace HO1 := Lib.hid (own_blw HO1.out hbe)
          have HLIT := Lib.hid hlit
          refine hK _ _ (fun _ => rowc RX.out) ?_
          clear hK K hS hlit
          try simp only [Act.put, List.getElem_toArray, List.getElem_cons_succ, List.getElem_cons_zero, List.setIfInBounds_toArray, List.set_cons_zero, List.set_cons_succ]
          have hg4 : w2.heap.size ≤ w4.heap.size := by omega
          generalize w4.alloc (.cells #[.int .i64 x.id] 3) = w5 at *
          generalize w4.heap.size = gl at *
          have hS := (rowc RX.out : ∀ j_1, w5.cell? ⟨gx, j_1, none⟩ = (#[.int .i64 x.id, .string x.name, .int .i64 x.rep, .int .i64 x.kind, .slice ax xl cx] : Array Value)[j_1]?)
          refine AnyE.one (i := 5) (by kernel_rfl) rfl rfl ?_
          intro K hK
          simp only [List.getElem_toArray, List.getElem_cons_succ, List.getElem_cons_zero]
          refine wp_appT (.tmp 21) (.tmp 24) rfl w2.heap.size _ p ?_ HO1.out _ [x.id] ?_ (IsNums.of_own (B := w2.heap.size) (e := 3) HLIT.out) ?_ ?_ ?_
          focus (go_simp)
          focus (go_simp)
          focus (have := HH.out; simp only [List.length_cons, List.length_nil]; omega)
          focus (omega)
          intro v2 w6 ho2 hg2
          obtain ⟨a2, c2, rfl⟩ := own_form ho2
          have hb2 : Below w2.heap.size w5 w6 := (Below.refl w2.heap.size w5).grown hg2 (by omega) (fun k hk => (HO1.out.lt k hk).1)
          replace RX := Lib.hid ((hb2.block gx hgx).trans RX.out); replace HBX := Lib.hid (HBX.out.trans hb2)
          have HO2 := Lib.hid ho2
          refine hK _ _ (fun _ => rowc RX.out) ?_
          clear hK K hS ho2 hg2 hb2
          try simp only [Act.put, List.getElem_toArray, List.getElem_cons_succ, List.getElem_cons_zero, List.setIfInBounds_toArray, List.set_cons_zero, List.set_cons_succ]
          have hS := (rowc RX.out : ∀ j_1, w6.cell? ⟨gx, j_1, none⟩ = (#[.int .i64 x.id, .string x.name, .int .i64 x.rep, .int .i64 x.kind, .slice ax xl cx] : Array Value)[j_1]?)
          refine AnyE.one (i := 6) (by kernel_rfl) rfl rfl ?_
          intro K hK
          simp only [List.getElem_toArray, List.getElem_cons_succ, List.getElem_cons_zero]
          go_simp
          refine hK _ _ (fun _ => rowc RX.out) ?_
          clear hK K
          try simp only [Act.put, List.getElem_toArray, List.getElem_cons_succ, List.getElem_cons_zero, List.setIfInBounds_toArray, List.set_cons_zero, List.set_cons_succ]
          refine AnyE.done (by kernel_rfl) ?_ _
          go_wp2_with fail
          go_meet
          exact ⟨a2, c2, p ++ [x.id], by rw [List.length_append]; rfl, (if_pos H3.out).symm, IntsT.of_own (B := w2.heap.size) HO2.out, HBX.out⟩
        · intro K hK
          simp only [List.getElem_toArray, List.getElem_cons_succ, List.getElem_cons_zero]
          go_simp
          have hbe := (Below.refl wd.heap.size wd).alloc (Nat.le_refl _) (.cells #[.int .i64 x.id] 3)
          have hlit := World.ownsRow_lit (base := w2.heap.size) (e := 3) (size := 1) wd #[.int .i64 x.id] 1 (by omega) (by decide) rfl
          replace RX := Lib.hid (row_keep hbe RX.out); replace HPX := Lib.hid (HPX.out.below hbe); replace HBX := Lib.hid (HBX.out.trans (hbe.mono HBX.out.size))
          have hzhbe := hbe.size
          have HLIT := Lib.hid hlit
          refine hK _ _ (fun _ => rowc RX.out) ?_
          clear hK K hS hlit
          try simp only [Act.put, List.getElem_toArray, List.getElem_cons_succ, List.getElem_cons_zero, List.setIfInBounds_toArray, List.set_cons_zero, List.set_cons_succ]
          generalize wd.alloc (.cells #[.int .i64 x.id] 3) = w3 at *
          generalize wd.heap.size = gl at *
          have hS := (rowc RX.out : ∀ j_1, w3.cell? ⟨gx, j_1, none⟩ = (#[.int .i64 x.id, .string x.name, .int .i64 x.rep, .int .i64 x.kind, .slice ax xl cx] : Array Value)[j_1]?)
          refine AnyE.one (i := 1) (by kernel_rfl) rfl rfl ?_
          intro K hK
          simp only [List.getElem_toArray, List.getElem_cons_succ, List.getElem_cons_zero]
          refine wp_appT (.const (.slice none 0 0)) (.tmp 20) rfl w2.heap.size _ [] ?_ (World.ownsRow_nil _ _ _ _) _ p ?_ HPX.out.1 ?_ ?_ ?_
          focus (go_simp)
          focus (go_simp)
          focus (have := HH.out; simp only [List.length_nil]; omega)
          focus (omega)
          intro v1 w5 ho1 hg1
          rw [List.nil_append] at ho1
          obtain ⟨a1, c1, rfl⟩ := own_form ho1
          have hb1 : Below w3.heap.size w3 w5 := (Below.refl w3.heap.size w3).grown hg1 (Nat.le_refl _) (fun k hk => by cases hk)
          replace RX := Lib.hid (row_keep hb1 RX.out); replace HPX := Lib.hid (HPX.out.below hb1); replace HBX := Lib.hid (HBX.out.trans (hb1.mono HBX.out.size))
          have hzhb1 := hb1.size
          have HO1 := Lib.hid ho1
          replace HLIT := Lib.hid (own_blw HLIT.out hb1)
          refine hK _ _ (fun _ => rowc RX.out) ?_
          clear hK K hS ho1 hg1
          try simp only [Act.put, List.getElem_toArray, List.getElem_cons_succ, List.getElem_cons_zero, List.setIfInBounds_toArray, List.set_cons_zero, List.set_cons_succ]
          have hS := (rowc RX.out : ∀ j_1, w5.cell? ⟨gx, j_1, none⟩ = (#[.int .i64 x.id, .string x.name, .int .i64 x.rep, .int .i64 x.kind, .slice ax xl cx] : Array Value)[j_1]?)
          refine AnyE.one (i := 5) (by kernel_rfl) rfl rfl ?_
          intro K hK
          simp only [List.getElem_toArray, List.getElem_cons_succ, List.getElem_cons_zero]
          refine wp_appT (.tmp 21) (.tmp 24) rfl w2.heap.size _ p ?_ HO1.out _ [x.id] ?_ (IsNums.of_own (B := w2.heap.size) (e := 3) HLIT.out) ?_ ?_ ?_
          focus (go_simp)
          focus (go_simp)
          focus (have := HH.out; simp only [List.length_cons, List.length_nil]; omega)
          focus (omega)
          intro v2 w6 ho2 hg2
          obtain ⟨a2, c2, rfl⟩ := own_form ho2
          have hb2 : Below w2.heap.size w5 w6 := (Below.refl w2.heap.size w5).grown hg2 (by omega) (fun k hk => (HO1.out.lt k hk).1)
          replace RX := Lib.hid ((hb2.block gx hgx).trans RX.out); replace HBX := Lib.hid (HBX.out.trans hb2)
          have HO2 := Lib.hid ho2
          refine hK _ _ (fun _ => rowc RX.out) ?_
          clear hK K hS ho2 hg2 hb2
          try simp only [Act.put, List.getElem_toArray, List.getElem_cons_succ, List.getElem_cons_zero, List.setIfInBounds_toArray, List.set_cons_zero, List.set_cons_succ]
          have hS := (rowc RX.out : ∀ j_1, w6.cell? ⟨gx, j_1, none⟩ = (#[.int .i64 x.id, .string x.name, .int .i64 x.rep, .int .i64 x.kind, .slice ax xl cx] : Array Value)[j_1]?)
          refine AnyE.one (i := 6) (by kernel_rfl) rfl rfl ?_
          intro K hK
          simp only [List.getElem_toArray, List.getElem_cons_succ, List.getElem_cons_zero]
          go_simp
          refine hK _ _ (fun _ => rowc RX.out) ?_
          clear hK K
          try simp only [Act.put, List.getElem_toArray, List.getElem_cons_succ, List.getElem_cons_zero, List.setIfInBounds_toArray, List.set_cons_zero, List.set_cons_succ]
          refine AnyE.done (by kernel_rfl) ?_ _
          go_wp2_with fail
          go_meet
          exact ⟨a2, c2, p ++ [x.id], by rw [List.length_append]; rfl, (if_pos H3.out).symm, IntsT.of_own (B := w2.heap.size) HO2.out, HBX.out⟩
      case rest =>
      obtain ⟨qa, qc, p', hs8, hp', hP', hbx⟩ := hcut
      subst hs8
      have HPL := Lib.hid (show p'.length ≤ p.length + 1 by rw [hp']; split <;> simp)
      have HPN := Lib.hid hp'; have HPI := Lib.hid hP'
      clear hp' hP' HPX HBX cX
      replace RX := Lib.hid ((hbx.block gx hgx).trans RX.out); replace RN := Lib.hid ((hbx.block w.heap.size (by omega)).trans RN.out); replace HR := Lib.hid (HR.out.below hbx); replace HBr := Lib.hid (HBr.out.trans (hbx.mono HBr.out.size)); replace HNX := Lib.hid (HNX.out.under (hbx.mono (by omega)))
      have hzc := hbx.size
      clear hbx
      obtain ⟨wo, hwo⟩ : ∃ wo, wo = wc := ⟨_, rfl⟩; subst hwo
      have hbo : w.heap.size + 1 ≤ wo.heap.size := by omega
      have cX := rowc RX.out
      have hLN : LR.length ≤ sizeL (l.take k) := by have := congrArg List.length HM.out; rw [List.length_map] at this; rw [this]; exact lsL_len.2 _ _
      have HLN := Lib.hid hLN
      clear hLN
      by_cases h0 : x.kind = 0
      · have d0 : ((x.kind : Int) == 0) = true := by simpa using h0
        have H0 := Lib.hid h0
        have HCL := Lib.hid (HIX.out (.slice ax xl cx) (.slice qa p'.length qc) p' wo (HNX.out.mono fun b hb _ => Nat.lt_of_lt_of_le hb HBr.out.size) HOX.out HPI.out (by have := HPL.out; have := HHX.out; have := HH.out; omega) (by have := HZX.out; have := HS.out; omega))
        unfold ndA at HCL
        clear h0
        go_wp2_with fail
        refine HCL.out.mono ?_; rintro e w4 ⟨v4, LR4, rfl, hr4, hm4, hb4⟩
        replace RN := Lib.hid ((hb4.block w.heap.size (by omega)).trans RN.out); replace HR := Lib.hid (HR.out.below hb4); replace HBr := Lib.hid (HBr.out.trans (hb4.mono HBr.out.size))
        have hbz : w.heap.size + 1 ≤ w4.heap.size := Nat.le_trans hbo hb4.size
        have H4 := Lib.hid hr4; have HM4 := Lib.hid hm4
        obtain ⟨a4, c4, rfl⟩ := own_form hr4.1
        have h64 : (LR.length + LR4.length) * 24 ≤ 140737488355328 := by
          have h1 := congrArg List.length HM4.out; rw [List.length_map] at h1
          have h2 := lsL_len.2 x.sub p'
          have h3 := HZX.out; have h4 := HS.out; have h5 := HLN.out; rw [size_eq] at h3; omega
        clear hr4 hm4 hb4 cX HCL
        go_wp2_with (at_builtin; refine wpList_appR rfl _ _ rfl (w.heap.size + 1) v5 LR rfl HR.out.1 wo.heap.size _ LR4 rfl H4.out.1 h64 hbz ?_; intro v' w6 hown' hgr; obtain ⟨av2, cv2, rfl⟩ := own_form hown'; have HO4 := Lib.hid hown'; have HG4 := Lib.hid hgr; clear hown' hgr)
        go_roundw
        case rel =>
          have hbg := (Below.refl w.heap.size w4).grown HG4.out (by omega) (fun k hk => Nat.le_of_succ_le (HR.out.1.lt k hk).1)
          have hbg' := HG4.out.size
          refine ⟨k + 1, .slice av2 (LR.length + LR4.length) cv2, LR ++ LR4, Hlt.out, by go_num, rfl, ⟨?_, fun q hq => ?_⟩, ?_, HBr.out.trans hbg, grown_row0 HR.out.1 HG4.out RN.out (by decide)⟩
          · have h := HO4.out; rw [show (LR ++ LR4).length = LR.length + LR4.length from List.length_append] at h ⊢; exact h
          · rcases List.mem_append.1 hq with hq | hq
            · exact (HR.out.2 q hq).keep hbg' fun g cs fz hg => grown_row0 HR.out.1 HG4.out hg (by decide)
            · exact (H4.out.2 q hq).keep hbg' fun g cs fz hg => grown_row0 HR.out.1 HG4.out hg (by decide)
          · show List.map Prod.fst _ = lsL _ p
            rw [List.map_append, HM.out, HSN.out, lsL_app, HM4.out]
            simp only [lsL, List.append_nil, List.map_cons, List.map_nil]
            rw [lsN_eq, if_pos H0.out, ← HPN.out]
        case measure => have := Hlt.out; simp [intOf]; omega
      · have d0 : ((x.kind : Int) == 0) = false := by simpa using h0
        have H0 := Lib.hid h0
        clear h0
        have h63 : LR.length + 1 ≤ maxLen := by have := HLN.out; have := HZX.out; have := HS.out; unfold maxLen; omega
        have h64 : (LR.length + 1) * 24 ≤ 140737488355328 := by have := HLN.out; have := HZX.out; have := HS.out; omega
        go_wp2_with (at_builtin; refine wpList_pushG rfl _ _ 28 rfl (w.heap.size + 1) 39 i1 (.slice none 0 0) 24 Tryd.underlying28 hj hy0 hy1 hy2 rfl rwC rwC_one v5 LR rfl HR.out.1 _ _ rfl h63 h64 hbo (p', .slice qa p'.length qc) rfl ?_; intro v' w4 hown' hgr; obtain ⟨av2, cv2, rfl⟩ := own_form hown'; have HO4 := Lib.hid hown'; have HG4 := Lib.hid hgr; have rX4 := grown_row HR.out.1 hgr RX.out (by decide); have cX := rowc rX4; have RX4 := Lib.hid rX4; clear hown' hgr rX4)
        go_roundw
        case rel =>
          have hbg := ((Below.refl w.heap.size wo).alloc (by omega) (.cells #[.slice qa p'.length qc] 39)).grown HG4.out (by simp; omega) (fun k hk => Nat.le_of_succ_le (HR.out.1.lt k hk).1)
          refine ⟨k + 1, .slice av2 (LR.length + 1) cv2, LR ++ [(p', .slice qa p'.length qc)], Hlt.out, by go_num, rfl, ⟨?_, fun q hq => ?_⟩, ?_, HBr.out.trans hbg, grown_row HR.out.1 HG4.out RN.out (by decide)⟩
          · have h := HO4.out; rw [show (LR ++ [(p', Value.slice qa p'.length qc)]).length = LR.length + 1 from List.length_append] at h ⊢; exact h
          · rcases List.mem_append.1 hq with hq | hq
            · exact (HR.out.2 q hq).keep hbg.size fun g cs fz hg => grown_row HR.out.1 HG4.out hg (by decide)
            · obtain rfl := List.mem_singleton.1 hq
              exact HPI.out.keep hbg.size fun g cs fz hg => grown_row HR.out.1 HG4.out hg (by decide)
          · show List.map Prod.fst _ = lsL _ p
            rw [List.map_append, HM.out, HSN.out, lsL_app]
            simp only [lsL, List.append_nil, List.map_cons, List.map_nil]
            rw [lsN_eq, if_neg H0.out, ← HPN.out]
        case measure => have := Hlt.out; simp [intOf]; omega
    · obtain rfl : k = len := by omega
      have hM := HM.out
      rw [List.take_of_length_le (Nat.le_of_eq HL.out)] at hM
      have HM2 := Lib.hid hM
      clear hM
      have cN := rowc RN.out
      go_wp2_with fail
      go_ret
      exact ⟨v5, LR, rfl, ⟨own_baseN HR.out.1 (Nat.le_succ _), HR.out.2⟩, HM2.out, HBr.out⟩
end Go.Proofs.YtfmdahfolnljkaaDoor
