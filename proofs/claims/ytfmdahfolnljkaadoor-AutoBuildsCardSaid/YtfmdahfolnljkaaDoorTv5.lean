/- The walk of the document's listsOf. -/
import Derived.Test.YtfmdahfolnljkaaDoorTv4
import Derived.Deep.DeepCutAuto
import Derived.Test.YtfmdahfolnljkaaDoorRegE
namespace Go.Proofs.YtfmdahfolnljkaaDoor
set_option linter.unusedVariables false
set_option linter.unusedSimpArgs false
open Go Go.RowKit Go.ChangeShapes

/-- what a node on a path gives to the lists around a leaf -/
def lsD1 (F : List Pl) (id : Int) : List Int := match findD F id with | some p => if p.n.rep = 3 then [p.n.id] else [] | none => []
def lsD (F : List Pl) (path : List Int) : List Int := path.flatMap (lsD1 F)
theorem lsD_len (F : List Pl) (path : List Int) : (lsD F path).length ≤ path.length := by
  unfold lsD
  induction path with
  | nil => simp
  | cons a r ih =>
    rw [List.flatMap_cons, List.length_append, List.length_cons]
    have : (lsD1 F a).length ≤ 1 := by unfold lsD1; split <;> (try split) <;> simp
    omega
/-- FindOf's answer in one form -/
def FindOne (F : List Pl) (id : Int) (w : World) (e : Ending) (w' : World) : Prop :=
  ∃ (i : Int) (nm : ByteArray) (rp kd : Int) (a : Option Addr) (k c : Nat) (b : Bool), e = .returned (.tuple #[.agg #[.int .i64 i, .string nm, .int .i64 rp, .int .i64 kd, .slice a k c], .bool b]) ∧ Below w.heap.size w w' ∧ (rp = 3 → lsD1 F id = [i]) ∧ (rp ≠ 3 → lsD1 F id = [])
theorem FindRet.one {F : List Pl} {id : Int} {w w' : World} {e : Ending} (h : FindRet F id w e w') : FindOne F id w e w' := by
  obtain ⟨hb, ⟨p, a, c, h1, h2, h3⟩ | ⟨h1, h2⟩⟩ := h
  · exact ⟨_, _, _, _, _, _, _, _, h2, hb, fun h => by unfold lsD1; rw [h1]; simp [h], fun h => by unfold lsD1; rw [h1]; simp [h]⟩
  · exact ⟨_, _, _, _, _, _, _, _, h2, hb, fun h => by simp [zeroNd, Nd.rep] at h, fun h => by unfold lsD1; rw [h1]⟩

/-- two may come up -/
theorem AnyE.two {P : Program} {ops : Array Oper} {Q : Exit → Act → World → Prop} {md : Region.Mode} {S : World → Prop} {E : List Nat} {i j : Nat} {oi oj : Oper} {n : Nat} {listed : Array Bool} {a : Act} {w : World} (hr : Region.ready md ops listed = [i, j]) (hoi : ops[i]? = some oi) (hgi : oi.guard = none) (hoj : ops[j]? = some oj) (hgj : oj.guard = none)
    (hi : ∀ K : Act → World → Prop, (∀ a' w', (E.contains i = false → S w') → AnyE P md ops Q S E n (listed.setIfInBounds i true) a' w' → K a' w') → Oper.wp P oi a w K Q)
    (hj : ∀ K : Act → World → Prop, (∀ a' w', (E.contains j = false → S w') → AnyE P md ops Q S E n (listed.setIfInBounds j true) a' w' → K a' w') → Oper.wp P oj a w K Q) : AnyE P md ops Q S E (n + 1) listed a w := by
  refine ⟨fun h0 => (by rw [hr] at h0; cases h0), ?_⟩
  rw [hr]
  intro q hq
  simp only [List.mem_cons, List.not_mem_nil, or_false] at hq
  rcases hq with rfl | rfl
  · unfold wpOp
    simp only [hoi]
    have hw : Region.wanted oi (yielded ops a.tmps) = true := by simp [Region.wanted, hgi]
    rw [if_pos hw]
    exact .inl (hi _ fun a' w' h1 h2 => ⟨h1, h2⟩)
  · unfold wpOp
    simp only [hoj]
    have hw : Region.wanted oj (yielded ops a.tmps) = true := by simp [Region.wanted, hgj]
    rw [if_pos hw]
    exact .inl (hj _ fun a' w' h1 h2 => ⟨h1, h2⟩)
theorem set5_other {w : World} {g k : Nat} (hne : g ≠ k) (x0 x1 x2 x3 x4 : Value) : (((((w.setCell ⟨k, 0, none⟩ x0).setCell ⟨k, 1, none⟩ x1).setCell ⟨k, 2, none⟩ x2).setCell ⟨k, 3, none⟩ x3).setCell ⟨k, 4, none⟩ x4).heap[g]? = w.heap[g]? := by
  rw [heap_setCell_other _ _ _ _ hne, heap_setCell_other _ _ _ _ hne, heap_setCell_other _ _ _ _ hne, heap_setCell_other _ _ _ _ hne, heap_setCell_other _ _ _ _ hne]
theorem cell_set5 {w : World} {b o k : Nat} {v : Option Value} (hne : b ≠ k) (h : w.cell? ⟨b, o, none⟩ = v) (x0 x1 x2 x3 x4 : Value) : (((((w.setCell ⟨k, 0, none⟩ x0).setCell ⟨k, 1, none⟩ x1).setCell ⟨k, 2, none⟩ x2).setCell ⟨k, 3, none⟩ x3).setCell ⟨k, 4, none⟩ x4).cell? ⟨b, o, none⟩ = v := by
  have e := set5_other (w := w) hne x0 x1 x2 x3 x4
  have := World.cell?_of_block (w := w) (w' := (((((w.setCell ⟨k, 0, none⟩ x0).setCell ⟨k, 1, none⟩ x1).setCell ⟨k, 2, none⟩ x2).setCell ⟨k, 3, none⟩ x3).setCell ⟨k, 4, none⟩ x4)) (a := ⟨b, o, none⟩) e
  rw [this]; exact h
theorem row_set5 {w : World} {g : Nat} {c0 c1 c2 c3 c4 : Value} {t : TypeId} (hg : w.heap[g]? = some (.cells #[c0, c1, c2, c3, c4] t (0, 0))) (x0 x1 x2 x3 x4 : Value) : (((((w.setCell ⟨g, 0, none⟩ x0).setCell ⟨g, 1, none⟩ x1).setCell ⟨g, 2, none⟩ x2).setCell ⟨g, 3, none⟩ x3).setCell ⟨g, 4, none⟩ x4).heap[g]? = some (.cells #[x0, x1, x2, x3, x4] t (0, 0)) :=
  heap_setCell_same _ _ _ _ _ _ (heap_setCell_same _ _ _ _ _ _ (heap_setCell_same _ _ _ _ _ _ (heap_setCell_same _ _ _ _ _ _ (heap_setCell_same _ _ _ _ _ _ hg))))
theorem below_set5 {w0 w : World} {B g : Nat} (h : Below B w0 w) (hg : B ≤ g) (x0 x1 x2 x3 x4 : Value) : Below B w0 (((((w.setCell ⟨g, 0, none⟩ x0).setCell ⟨g, 1, none⟩ x1).setCell ⟨g, 2, none⟩ x2).setCell ⟨g, 3, none⟩ x3).setCell ⟨g, 4, none⟩ x4) :=
  ((((h.setCell (p := ⟨g, 0, none⟩) hg _).setCell (p := ⟨g, 1, none⟩) hg _).setCell (p := ⟨g, 2, none⟩) hg _).setCell (p := ⟨g, 3, none⟩) hg _).setCell (p := ⟨g, 4, none⟩) hg _
/-- the node that was found, in its variable -/
def FoundAt (F : List Pl) (id : Int) (wr wx : World) (gn : Nat) : Prop := ∃ (xi : Int) (nm : ByteArray) (rp kd : Int) (xa : Option Addr) (xk xc : Nat), wx.heap[gn]? = some (.cells #[.int .i64 xi, .string nm, .int .i64 rp, .int .i64 kd, .slice xa xk xc] 24 (0, 0)) ∧ (rp = 3 → lsD1 F id = [xi]) ∧ (rp ≠ 3 → lsD1 F id = []) ∧ Below wr.heap.size wr wx

set_option maxRecDepth 100000 in
set_option maxHeartbeats 16000000 in
theorem listsOf_any (n : Nd) (u : Value) (f0 f1 f2 f3 : Int) (pv : Value) (path : List Int) (w : World) (hN : IsNds (· < w.heap.size) w u n.sub) (hO : ∀ x ∈ nodes n, x.Ok1) (hI : IsInts w pv path) (hm : path.length ≤ 1000) :
    Calls Tryd.prog 29 #[.agg (ndA n u), .agg #[.int .i64 f0, .int .i64 f1, .int .i64 f2, .int .i64 f3, pv]] w fun e w' => (∃ v, e = .returned v ∧ w'.ownsRow w.heap.size 3 1 v (lsD (flatF [] n 1 (-1)) path).length ((lsD (flatF [] n 1 (-1)) path).map intN)) ∧ Below w.heap.size w w' := by
  obtain ⟨F, hF⟩ : ∃ F, flatF [] n 1 (-1) = F := ⟨_, rfl⟩
  have HFD := Lib.hid (fun (w1 : World) (hb : Below w.heap.size w w1) (id : Int) => show Calls Tryd.prog 52 #[.agg (ndA n u), .int .i64 id] w1 (FindOne F id w1) from hF ▸ (findOf_any n u id w1 ((hN.under hb).mono (fun b h _ => Nat.lt_of_lt_of_le h hb.size)) hO).mono fun _ _ h => h.one)
  rw [hF]
  clear hF hO
  obtain ⟨ad, cp, hu⟩ := hN.form
  obtain ⟨len, hlen⟩ : ∃ len, n.sub.length = len := ⟨_, rfl⟩
  rw [hlen] at hu
  subst hu
  clear hlen hN
  obtain ⟨pa, pc, rfl⟩ := hI.form
  obtain ⟨m, hml⟩ : ∃ m, path.length = m := ⟨_, rfl⟩
  rw [hml] at hI hm ⊢
  have HML := Lib.hid hml; have HI := Lib.hid hI
  clear hml hI
  obtain ⟨i0, hi, hz0, hz1, hz2⟩ := info_parts info_intN
  unfold ndA at *
  obtain ⟨rN, rL, hbw, hz⟩ := rows2 (w := w) (A := .cells #[.int .i64 n.id, .string n.name, .int .i64 n.rep, .int .i64 n.kind, .slice ad len cp] 24) (B := .cells #[.int .i64 f0, .int .i64 f1, .int .i64 f2, .int .i64 f3, .slice pa m pc] 41) (Below.refl _ _)
  have hb2 : w.heap.size + 2 ≤ ((w.alloc (.cells #[.int .i64 n.id, .string n.name, .int .i64 n.rep, .int .i64 n.kind, .slice ad len cp] 24)).alloc (.cells #[.int .i64 f0, .int .i64 f1, .int .i64 f2, .int .i64 f3, .slice pa m pc] 41)).heap.size := row_lt rL
  have RN := Lib.hid rN; have RL := Lib.hid rL; have HB := Lib.hid hbw
  clear rN rL hbw hz
  go_enter Tryd.func29, Tryd.ntmps29
  go_upto_region 1 with fail
  generalize ((w.alloc (.cells #[.int .i64 n.id, .string n.name, .int .i64 n.rep, .int .i64 n.kind, .slice ad len cp] 24)).alloc (.cells #[.int .i64 f0, .int .i64 f1, .int .i64 f2, .int .i64 f3, .slice pa m pc] 41)) = w1 at *
  go_wp2_with fail
  go_loopw [5, 6] (fun s5 i wr => ∃ (k : Nat) (v5 : Value), k ≤ m ∧ i = .int .i64 (k : Nat) ∧ v5 = s5 ∧ Hid (wr.ownsRow (w.heap.size + 2) 3 1 v5 (lsD F (path.take k)).length ((lsD F (path.take k)).map intN)) ∧ Hid (Below w.heap.size w wr) ∧ wr.heap[w.heap.size]? = some (.cells #[.int .i64 n.id, .string n.name, .int .i64 n.rep, .int .i64 n.kind, .slice ad len cp] 24 (0, 0)) ∧ wr.heap[w.heap.size + 1]? = some (.cells #[.int .i64 f0, .int .i64 f1, .int .i64 f2, .int .i64 f3, .slice pa m pc] 41 (0, 0))) (fun _ i _ => m - (intOf i).toNat)
  case atStart => exact ⟨0, _, Nat.zero_le _, rfl, rfl, World.ownsRow_nil _ _ _ _, HB.out, RN.out, RL.out⟩
  case round =>
    obtain ⟨k, v5, hk, rfl, hv5, HOW, HBr, rN, rL⟩ := hrel
    subst hv5
    clear RN RL HB
    have RN := Lib.hid rN; have RL := Lib.hid rL
    have hsz : w.heap.size + 2 ≤ wr.heap.size := row_lt rL
    clear rN rL
    by_cases hlt : k < m
    · have hkl : k < path.length := by rw [HML.out]; exact hlt
      obtain ⟨b0, off, rfl, -, hb0, hat⟩ := (HI.out.below HBr.out (Nat.le_refl _)).at (by rw [HML.out]; omega)
      have hc := hat k _ (List.getElem?_eq_getElem hkl)
      have htk : path.take (k + 1) = path.take k ++ [path[k]] := List.take_succ_eq_append_getElem hkl
      have hin : (k : Int) < (m : Int) := by omega
      have Hlt := Lib.hid hlt
      generalize path[k] = id at *
      have HC0 := Lib.hid hc
      have HTK := Lib.hid (show lsD F (path.take (k + 1)) = lsD F (path.take k) ++ lsD1 F id by rw [htk]; unfold lsD; rw [List.flatMap_append]; simp)
      have hll : (lsD F (path.take k)).length ≤ 1000 := Nat.le_trans (lsD_len _ _) (by rw [List.length_take]; omega)
      have HB2 := Lib.hid (Below.refl wr.heap.size wr)
      clear hat hkl hc htk
      have cL := rowc RL.out
      go_upto_region 5 with fail
      clear cL
      go_cut [7] (fun s7 wx => ∃ gn : Nat, s7 = .pointer (some ⟨gn, 0, none⟩) ∧ FoundAt F id wr wx gn)
      case first =>
        refine AnyE.region (S := fun w' => (∀ j_1, w'.cell? ⟨w.heap.size, j_1, none⟩ = (#[.int .i64 n.id, .string n.name, .int .i64 n.rep, .int .i64 n.kind, .slice ad len cp] : Array Value)[j_1]?) ∧ (∀ j_1, w'.cell? ⟨w.heap.size + 1, j_1, none⟩ = (#[.int .i64 f0, .int .i64 f1, .int .i64 f2, .int .i64 f3, .slice (some ⟨b0, off, none⟩) m pc] : Array Value)[j_1]?) ∧ w'.cell? ⟨b0, off + k, none⟩ = some (.int .i64 id)) (E := []) (by kernel_rfl) ?_
        have hbd := (Below.refl wr.heap.size wr).drew
        replace RN := Lib.hid (row_keep hbd RN.out); replace RL := Lib.hid (row_keep hbd RL.out); replace HC0 := Lib.hid ((hbd.cell (p := ⟨b0, off + k, none⟩) (block_lt_of_cell HC0.out)).trans HC0.out); replace HB2 := Lib.hid (HB2.out.trans (hbd.mono HB2.out.size))
        have hwdz : wr.heap.size ≤ wr.drew.heap.size := Nat.le_refl _
        clear hbd
        generalize wr.drew = wd at *
        have hS := (⟨rowc RN.out, rowc RL.out, HC0.out⟩ : (∀ j_1, wd.cell? ⟨w.heap.size, j_1, none⟩ = (#[.int .i64 n.id, .string n.name, .int .i64 n.rep, .int .i64 n.kind, .slice ad len cp] : Array Value)[j_1]?) ∧ (∀ j_1, wd.cell? ⟨w.heap.size + 1, j_1, none⟩ = (#[.int .i64 f0, .int .i64 f1, .int .i64 f2, .int .i64 f3, .slice (some ⟨b0, off, none⟩) m pc] : Array Value)[j_1]?) ∧ wd.cell? ⟨b0, off + k, none⟩ = some (.int .i64 id))
        refine AnyE.take (i := 0) (v := ?_) rfl (by kernel_rfl) (by kernel_rfl) (by kernel_rfl) (by kernel_rfl) (by kernel_rfl) (fun _ _ _ h => h) (Or.inl ⟨by rfl, ?_⟩) hS ?_
        rotate_left
        focus (intro wq hSq; obtain ⟨hS1, hS2, q0⟩ := hSq; go_simp; with_reducible rfl)
        try simp only [Act.put, List.getElem_toArray, List.getElem_cons_succ, List.getElem_cons_zero, List.setIfInBounds_toArray, List.set_cons_zero, List.set_cons_succ]
        refine AnyE.take (i := 1) (v := ?_) rfl (by kernel_rfl) (by kernel_rfl) (by kernel_rfl) (by kernel_rfl) (by kernel_rfl) (fun _ _ _ h => h) (Or.inl ⟨by rfl, ?_⟩) hS ?_
        rotate_left
        focus (intro wq hSq; obtain ⟨hS1, hS2, q0⟩ := hSq; go_simp; with_reducible rfl)
        try simp only [Act.put, List.getElem_toArray, List.getElem_cons_succ, List.getElem_cons_zero, List.setIfInBounds_toArray, List.set_cons_zero, List.set_cons_succ]
        refine AnyE.take (i := 2) (v := ?_) rfl (by kernel_rfl) (by kernel_rfl) (by kernel_rfl) (by kernel_rfl) (by kernel_rfl) (fun _ _ _ h => h) (Or.inl ⟨by rfl, ?_⟩) hS ?_
        rotate_left
        focus (intro wq hSq; obtain ⟨hS1, hS2, q0⟩ := hSq; go_simp; with_reducible rfl)
        try simp only [Act.put, List.getElem_toArray, List.getElem_cons_succ, List.getElem_cons_zero, List.setIfInBounds_toArray, List.set_cons_zero, List.set_cons_succ]
        refine AnyE.take (i := 3) (v := ?_) rfl (by kernel_rfl) (by kernel_rfl) (by kernel_rfl) (by kernel_rfl) (by kernel_rfl) (fun _ _ _ h => h) (Or.inl ⟨by rfl, ?_⟩) hS ?_
        rotate_left
        focus (intro wq hSq; obtain ⟨hS1, hS2, q0⟩ := hSq; go_simp; with_reducible rfl)
        try simp only [Act.put, List.getElem_toArray, List.getElem_cons_succ, List.getElem_cons_zero, List.setIfInBounds_toArray, List.set_cons_zero, List.set_cons_succ]
        refine AnyE.take (i := 4) (v := ?_) rfl (by kernel_rfl) (by kernel_rfl) (by kernel_rfl) (by kernel_rfl) (by kernel_rfl) (fun _ _ _ h => h) (Or.inl ⟨by rfl, ?_⟩) hS ?_
        rotate_left
        focus (intro wq hSq; obtain ⟨hS1, hS2, q0⟩ := hSq; go_simp; with_reducible rfl)
        try simp only [Act.put, List.getElem_toArray, List.getElem_cons_succ, List.getElem_cons_zero, List.setIfInBounds_toArray, List.set_cons_zero, List.set_cons_succ]
        refine AnyE.take (i := 5) (v := ?_) rfl (by kernel_rfl) (by kernel_rfl) (by kernel_rfl) (by kernel_rfl) (by kernel_rfl) (fun _ _ _ h => h) (Or.inl ⟨by rfl, ?_⟩) hS ?_
        rotate_left
        focus (intro wq hSq; obtain ⟨hS1, hS2, q0⟩ := hSq; go_simp; with_reducible rfl)
        try simp only [Act.put, List.getElem_toArray, List.getElem_cons_succ, List.getElem_cons_zero, List.setIfInBounds_toArray, List.set_cons_zero, List.set_cons_succ]
        refine AnyE.two (i := 6) (j := 10) (by kernel_rfl) rfl rfl rfl rfl ?_ ?_
        · intro K hK
          simp only [List.getElem_toArray, List.getElem_cons_succ, List.getElem_cons_zero]
          go_simp
          refine (HFD.out wd (HBr.out.trans (HB2.out.mono HBr.out.size)) id).mono ?_; rintro e w4 ⟨xi, nm, rp, kd, xa, xk, xc, xb, rfl, hb4, hyes, hno⟩
          replace RN := Lib.hid (row_keep hb4 RN.out); replace RL := Lib.hid (row_keep hb4 RL.out); replace HC0 := Lib.hid ((hb4.cell (p := ⟨b0, off + k, none⟩) (block_lt_of_cell HC0.out)).trans HC0.out); replace HB2 := Lib.hid (HB2.out.trans (hb4.mono HB2.out.size))
          refine hK _ _ (fun _ => ⟨rowc RN.out, rowc RL.out, HC0.out⟩) ?_
          have HY := Lib.hid hyes; have HNO := Lib.hid hno
          have HB4 := Lib.hid hb4
          clear hK K hS hyes hno hb4
          try simp only [Act.put, List.getElem_toArray, List.getElem_cons_succ, List.getElem_cons_zero, List.setIfInBounds_toArray, List.set_cons_zero, List.set_cons_succ]
          have hS := (⟨rowc RN.out, rowc RL.out, HC0.out⟩ : (∀ j_1, w4.cell? ⟨w.heap.size, j_1, none⟩ = (#[.int .i64 n.id, .string n.name, .int .i64 n.rep, .int .i64 n.kind, .slice ad len cp] : Array Value)[j_1]?) ∧ (∀ j_1, w4.cell? ⟨w.heap.size + 1, j_1, none⟩ = (#[.int .i64 f0, .int .i64 f1, .int .i64 f2, .int .i64 f3, .slice (some ⟨b0, off, none⟩) m pc] : Array Value)[j_1]?) ∧ w4.cell? ⟨b0, off + k, none⟩ = some (.int .i64 id))
          have hwdz := Nat.le_trans hwdz HB4.out.size
          refine AnyE.take (i := 7) (v := ?_) rfl (by kernel_rfl) (by kernel_rfl) (by kernel_rfl) (by kernel_rfl) (by kernel_rfl) (fun _ _ _ h => h) (Or.inl ⟨by rfl, ?_⟩) hS ?_
          rotate_left
          focus (intro wq hSq; obtain ⟨hS1, hS2, q0⟩ := hSq; go_simp; with_reducible rfl)
          try simp only [Act.put, List.getElem_toArray, List.getElem_cons_succ, List.getElem_cons_zero, List.setIfInBounds_toArray, List.set_cons_zero, List.set_cons_succ]
          refine AnyE.take (i := 8) (v := ?_) rfl (by kernel_rfl) (by kernel_rfl) (by kernel_rfl) (by kernel_rfl) (by kernel_rfl) (fun _ _ _ h => h) (Or.inl ⟨by rfl, ?_⟩) hS ?_
          rotate_left
          focus (intro wq hSq; obtain ⟨hS1, hS2, q0⟩ := hSq; go_simp; with_reducible rfl)
          try simp only [Act.put, List.getElem_toArray, List.getElem_cons_succ, List.getElem_cons_zero, List.setIfInBounds_toArray, List.set_cons_zero, List.set_cons_succ]
          refine AnyE.take (i := 9) (v := ?_) rfl (by kernel_rfl) (by kernel_rfl) (by kernel_rfl) (by kernel_rfl) (by kernel_rfl) (fun _ _ _ h => h) (Or.inl ⟨by rfl, ?_⟩) hS ?_
          rotate_left
          focus (intro wq hSq; obtain ⟨hS1, hS2, q0⟩ := hSq; go_simp; with_reducible rfl)
          try simp only [Act.put, List.getElem_toArray, List.getElem_cons_succ, List.getElem_cons_zero, List.setIfInBounds_toArray, List.set_cons_zero, List.set_cons_succ]
          refine AnyE.one (i := 10) (by kernel_rfl) rfl rfl ?_
          intro K hK
          simp only [List.getElem_toArray, List.getElem_cons_succ, List.getElem_cons_zero]
          go_simp
          have hbe := (Below.refl w4.heap.size w4).alloc (Nat.le_refl _) (.cells #[.int .i64 0, .string ⟨#[]⟩, .int .i64 0, .int .i64 0, .slice none 0 0] 24)
          have hrg := heap_alloc_new w4 (.cells #[.int .i64 0, .string ⟨#[]⟩, .int .i64 0, .int .i64 0, .slice none 0 0] 24)
          replace RN := Lib.hid (row_keep hbe RN.out); replace RL := Lib.hid (row_keep hbe RL.out); replace HC0 := Lib.hid ((hbe.cell (p := ⟨b0, off + k, none⟩) (block_lt_of_cell HC0.out)).trans HC0.out); replace HB2 := Lib.hid (HB2.out.trans (hbe.mono HB2.out.size))
          refine hK _ _ (fun _ => ⟨rowc RN.out, rowc RL.out, HC0.out⟩) ?_
          have RG := Lib.hid hrg
          clear hK K hS hrg hbe
          try simp only [Act.put, List.getElem_toArray, List.getElem_cons_succ, List.getElem_cons_zero, List.setIfInBounds_toArray, List.set_cons_zero, List.set_cons_succ]
          have hgn : wr.heap.size ≤ w4.heap.size := hwdz
          generalize w4.alloc (.cells #[.int .i64 0, .string ⟨#[]⟩, .int .i64 0, .int .i64 0, .slice none 0 0] 24) = w5 at *
          generalize w4.heap.size = gn at *
          have hS := (⟨rowc RN.out, rowc RL.out, HC0.out⟩ : (∀ j_1, w5.cell? ⟨w.heap.size, j_1, none⟩ = (#[.int .i64 n.id, .string n.name, .int .i64 n.rep, .int .i64 n.kind, .slice ad len cp] : Array Value)[j_1]?) ∧ (∀ j_1, w5.cell? ⟨w.heap.size + 1, j_1, none⟩ = (#[.int .i64 f0, .int .i64 f1, .int .i64 f2, .int .i64 f3, .slice (some ⟨b0, off, none⟩) m pc] : Array Value)[j_1]?) ∧ w5.cell? ⟨b0, off + k, none⟩ = some (.int .i64 id))
          refine AnyE.one (i := 11) (by kernel_rfl) rfl rfl ?_
          intro K hK
          simp only [List.getElem_toArray, List.getElem_cons_succ, List.getElem_cons_zero]
          have cG := rowc RG.out; have fG := rowf RG.out
          go_simp
          have hne1 : w.heap.size ≠ gn := by omega
          have hne2 : w.heap.size + 1 ≠ gn := by omega
          have hne3 : b0 ≠ gn := by omega
          have rN9 := (set5_other hne1 (.int .i64 xi) (.string nm) (.int .i64 rp) (.int .i64 kd) (.slice xa xk xc)).trans RN.out; have rL9 := (set5_other hne2 (.int .i64 xi) (.string nm) (.int .i64 rp) (.int .i64 kd) (.slice xa xk xc)).trans RL.out
          have hc9 : (((((w5.setCell ⟨gn, 0, none⟩ (.int .i64 xi)).setCell ⟨gn, 1, none⟩ (.string nm)).setCell ⟨gn, 2, none⟩ (.int .i64 rp)).setCell ⟨gn, 3, none⟩ (.int .i64 kd)).setCell ⟨gn, 4, none⟩ (.slice xa xk xc)).cell? ⟨b0, off + k, none⟩ = some (.int .i64 id) := cell_set5 hne3 HC0.out (.int .i64 xi) (.string nm) (.int .i64 rp) (.int .i64 kd) (.slice xa xk xc)
          refine hK _ _ (fun _ => ⟨rowc rN9, rowc rL9, hc9⟩) ?_
          have HFO := Lib.hid (show FoundAt F id wr (((((w5.setCell ⟨gn, 0, none⟩ (.int .i64 xi)).setCell ⟨gn, 1, none⟩ (.string nm)).setCell ⟨gn, 2, none⟩ (.int .i64 rp)).setCell ⟨gn, 3, none⟩ (.int .i64 kd)).setCell ⟨gn, 4, none⟩ (.slice xa xk xc)) gn from ⟨xi, nm, rp, kd, xa, xk, xc, row_set5 RG.out _ _ _ _ _, HY.out, HNO.out, below_set5 HB2.out hgn _ _ _ _ _⟩)
          have RN9 := Lib.hid rN9; have RL9 := Lib.hid rL9; have HC9 := Lib.hid hc9
          clear hK K hS cG fG hne1 hne2 hne3 rN9 rL9 hc9 RN RL HC0
          try simp only [Act.put, List.getElem_toArray, List.getElem_cons_succ, List.getElem_cons_zero, List.setIfInBounds_toArray, List.set_cons_zero, List.set_cons_succ]
          generalize (((((w5.setCell ⟨gn, 0, none⟩ (.int .i64 xi)).setCell ⟨gn, 1, none⟩ (.string nm)).setCell ⟨gn, 2, none⟩ (.int .i64 rp)).setCell ⟨gn, 3, none⟩ (.int .i64 kd)).setCell ⟨gn, 4, none⟩ (.slice xa xk xc)) = w9 at *
          refine AnyE.one (i := 12) (by kernel_rfl) rfl rfl ?_
          intro K hK
          simp only [List.getElem_toArray, List.getElem_cons_succ, List.getElem_cons_zero]
          go_simp
          refine hK _ _ (fun _ => ⟨rowc RN9.out, rowc RL9.out, HC9.out⟩) ?_
          clear hK K
          try simp only [Act.put, List.getElem_toArray, List.getElem_cons_succ, List.getElem_cons_zero, List.setIfInBounds_toArray, List.set_cons_zero, List.set_cons_succ]
          refine AnyE.done (by kernel_rfl) ?_ _
          go_wp2_with fail
          go_meet
          exact ⟨gn, rfl, HFO.out⟩
        · intro K hK
          simp only [List.getElem_toArray, List.getElem_cons_succ, List.getElem_cons_zero]
          go_simp
          have hbe := (Below.refl wd.heap.size wd).alloc (Nat.le_refl _) (.cells #[.int .i64 0, .string ⟨#[]⟩, .int .i64 0, .int .i64 0, .slice none 0 0] 24)
          have hrg := heap_alloc_new wd (.cells #[.int .i64 0, .string ⟨#[]⟩, .int .i64 0, .int .i64 0, .slice none 0 0] 24)
          replace RN := Lib.hid (row_keep hbe RN.out); replace RL := Lib.hid (row_keep hbe RL.out); replace HC0 := Lib.hid ((hbe.cell (p := ⟨b0, off + k, none⟩) (block_lt_of_cell HC0.out)).trans HC0.out); replace HB2 := Lib.hid (HB2.out.trans (hbe.mono HB2.out.size))
          refine hK _ _ (fun _ => ⟨rowc RN.out, rowc RL.out, HC0.out⟩) ?_
          have RG := Lib.hid hrg
          clear hK K hS hrg hbe
          try simp only [Act.put, List.getElem_toArray, List.getElem_cons_succ, List.getElem_cons_zero, List.setIfInBounds_toArray, List.set_cons_zero, List.set_cons_succ]
          have hgn : wr.heap.size ≤ wd.heap.size := hwdz
          generalize wd.alloc (.cells #[.int .i64 0, .string ⟨#[]⟩, .int .i64 0, .int .i64 0, .slice none 0 0] 24) = w3 at *
          generalize wd.heap.size = gn at *
          have hS := (⟨rowc RN.out, rowc RL.out, HC0.out⟩ : (∀ j_1, w3.cell? ⟨w.heap.size, j_1, none⟩ = (#[.int .i64 n.id, .string n.name, .int .i64 n.rep, .int .i64 n.kind, .slice ad len cp] : Array Value)[j_1]?) ∧ (∀ j_1, w3.cell? ⟨w.heap.size + 1, j_1, none⟩ = (#[.int .i64 f0, .int .i64 f1, .int .i64 f2, .int .i64 f3, .slice (some ⟨b0, off, none⟩) m pc] : Array Value)[j_1]?) ∧ w3.cell? ⟨b0, off + k, none⟩ = some (.int .i64 id))
          refine AnyE.one (i := 6) (by kernel_rfl) rfl rfl ?_
          intro K hK
          simp only [List.getElem_toArray, List.getElem_cons_succ, List.getElem_cons_zero]
          go_simp
          refine (HFD.out w3 (HBr.out.trans (HB2.out.mono HBr.out.size)) id).mono ?_; rintro e w4 ⟨xi, nm, rp, kd, xa, xk, xc, xb, rfl, hb4, hyes, hno⟩
          replace RN := Lib.hid (row_keep hb4 RN.out); replace RL := Lib.hid (row_keep hb4 RL.out); replace HC0 := Lib.hid ((hb4.cell (p := ⟨b0, off + k, none⟩) (block_lt_of_cell HC0.out)).trans HC0.out); replace HB2 := Lib.hid (HB2.out.trans (hb4.mono HB2.out.size))
          refine hK _ _ (fun _ => ⟨rowc RN.out, rowc RL.out, HC0.out⟩) ?_
          have HY := Lib.hid hyes; have HNO := Lib.hid hno
          have HB4 := Lib.hid hb4
          clear hK K hS hyes hno hb4
          try simp only [Act.put, List.getElem_toArray, List.getElem_cons_succ, List.getElem_cons_zero, List.setIfInBounds_toArray, List.set_cons_zero, List.set_cons_succ]
          have hS := (⟨rowc RN.out, rowc RL.out, HC0.out⟩ : (∀ j_1, w4.cell? ⟨w.heap.size, j_1, none⟩ = (#[.int .i64 n.id, .string n.name, .int .i64 n.rep, .int .i64 n.kind, .slice ad len cp] : Array Value)[j_1]?) ∧ (∀ j_1, w4.cell? ⟨w.heap.size + 1, j_1, none⟩ = (#[.int .i64 f0, .int .i64 f1, .int .i64 f2, .int .i64 f3, .slice (some ⟨b0, off, none⟩) m pc] : Array Value)[j_1]?) ∧ w4.cell? ⟨b0, off + k, none⟩ = some (.int .i64 id))
          replace RG := Lib.hid (row_keep HB4.out RG.out)
          refine AnyE.take (i := 7) (v := ?_) rfl (by kernel_rfl) (by kernel_rfl) (by kernel_rfl) (by kernel_rfl) (by kernel_rfl) (fun _ _ _ h => h) (Or.inl ⟨by rfl, ?_⟩) hS ?_
          rotate_left
          focus (intro wq hSq; obtain ⟨hS1, hS2, q0⟩ := hSq; go_simp; with_reducible rfl)
          try simp only [Act.put, List.getElem_toArray, List.getElem_cons_succ, List.getElem_cons_zero, List.setIfInBounds_toArray, List.set_cons_zero, List.set_cons_succ]
          refine AnyE.take (i := 8) (v := ?_) rfl (by kernel_rfl) (by kernel_rfl) (by kernel_rfl) (by kernel_rfl) (by kernel_rfl) (fun _ _ _ h => h) (Or.inl ⟨by rfl, ?_⟩) hS ?_
          rotate_left
          focus (intro wq hSq; obtain ⟨hS1, hS2, q0⟩ := hSq; go_simp; with_reducible rfl)
          try simp only [Act.put, List.getElem_toArray, List.getElem_cons_succ, List.getElem_cons_zero, List.setIfInBounds_toArray, List.set_cons_zero, List.set_cons_succ]
          refine AnyE.take (i := 9) (v := ?_) rfl (by kernel_rfl) (by kernel_rfl) (by kernel_rfl) (by kernel_rfl) (by kernel_rfl) (fun _ _ _ h => h) (Or.inl ⟨by rfl, ?_⟩) hS ?_
          rotate_left
          focus (intro wq hSq; obtain ⟨hS1, hS2, q0⟩ := hSq; go_simp; with_reducible rfl)
          try simp only [Act.put, List.getElem_toArray, List.getElem_cons_succ, List.getElem_cons_zero, List.setIfInBounds_toArray, List.set_cons_zero, List.set_cons_succ]
          refine AnyE.one (i := 11) (by kernel_rfl) rfl rfl ?_
          intro K hK
          simp only [List.getElem_toArray, List.getElem_cons_succ, List.getElem_cons_zero]
          have cG := rowc RG.out; have fG := rowf RG.out
          go_simp
          have hne1 : w.heap.size ≠ gn := by omega
          have hne2 : w.heap.size + 1 ≠ gn := by omega
          have hne3 : b0 ≠ gn := by omega
          have rN9 := (set5_other hne1 (.int .i64 xi) (.string nm) (.int .i64 rp) (.int .i64 kd) (.slice xa xk xc)).trans RN.out; have rL9 := (set5_other hne2 (.int .i64 xi) (.string nm) (.int .i64 rp) (.int .i64 kd) (.slice xa xk xc)).trans RL.out
          have hc9 : (((((w4.setCell ⟨gn, 0, none⟩ (.int .i64 xi)).setCell ⟨gn, 1, none⟩ (.string nm)).setCell ⟨gn, 2, none⟩ (.int .i64 rp)).setCell ⟨gn, 3, none⟩ (.int .i64 kd)).setCell ⟨gn, 4, none⟩ (.slice xa xk xc)).cell? ⟨b0, off + k, none⟩ = some (.int .i64 id) := cell_set5 hne3 HC0.out (.int .i64 xi) (.string nm) (.int .i64 rp) (.int .i64 kd) (.slice xa xk xc)
          refine hK _ _ (fun _ => ⟨rowc rN9, rowc rL9, hc9⟩) ?_
          have HFO := Lib.hid (show FoundAt F id wr (((((w4.setCell ⟨gn, 0, none⟩ (.int .i64 xi)).setCell ⟨gn, 1, none⟩ (.string nm)).setCell ⟨gn, 2, none⟩ (.int .i64 rp)).setCell ⟨gn, 3, none⟩ (.int .i64 kd)).setCell ⟨gn, 4, none⟩ (.slice xa xk xc)) gn from ⟨xi, nm, rp, kd, xa, xk, xc, row_set5 RG.out _ _ _ _ _, HY.out, HNO.out, below_set5 HB2.out hgn _ _ _ _ _⟩)
          have RN9 := Lib.hid rN9; have RL9 := Lib.hid rL9; have HC9 := Lib.hid hc9
          clear hK K hS cG fG hne1 hne2 hne3 rN9 rL9 hc9 RN RL HC0
          try simp only [Act.put, List.getElem_toArray, List.getElem_cons_succ, List.getElem_cons_zero, List.setIfInBounds_toArray, List.set_cons_zero, List.set_cons_succ]
          generalize (((((w4.setCell ⟨gn, 0, none⟩ (.int .i64 xi)).setCell ⟨gn, 1, none⟩ (.string nm)).setCell ⟨gn, 2, none⟩ (.int .i64 rp)).setCell ⟨gn, 3, none⟩ (.int .i64 kd)).setCell ⟨gn, 4, none⟩ (.slice xa xk xc)) = w9 at *
          refine AnyE.one (i := 12) (by kernel_rfl) rfl rfl ?_
          intro K hK
          simp only [List.getElem_toArray, List.getElem_cons_succ, List.getElem_cons_zero]
          go_simp
          refine hK _ _ (fun _ => ⟨rowc RN9.out, rowc RL9.out, HC9.out⟩) ?_
          clear hK K
          try simp only [Act.put, List.getElem_toArray, List.getElem_cons_succ, List.getElem_cons_zero, List.setIfInBounds_toArray, List.set_cons_zero, List.set_cons_succ]
          refine AnyE.done (by kernel_rfl) ?_ _
          go_wp2_with fail
          go_meet
          exact ⟨gn, rfl, HFO.out⟩
      case rest =>
      obtain ⟨gn, hs7, xi, nm, rp, kd, xa, xk, xc, hrg, hyes, hno, hbx⟩ := hcut
      subst hs7
      have RG := Lib.hid hrg; have HY := Lib.hid hyes; have HNO := Lib.hid hno
      have HBX := Lib.hid (HBr.out.trans (hbx.mono HBr.out.size))
      replace RN := Lib.hid (row_keep hbx RN.out); replace RL := Lib.hid (row_keep hbx RL.out); replace HOW := Lib.hid (own_blw HOW.out hbx)
      have hszx := Nat.le_trans hsz hbx.size
      clear hrg hyes hno hbx HB2 HC0
      have cG := rowc RG.out
      by_cases h3 : rp = 3
      · have d3 : ((rp : Int) == 3) = true := by simpa using h3
        have HX := Lib.hid (HY.out h3)
        have h63 : (lsD F (path.take k)).length + 1 ≤ maxLen := by unfold maxLen; omega
        have h64 : ((lsD F (path.take k)).length + 1) * 8 ≤ 140737488355328 := by omega
        clear h3
        go_wp2_with (at_builtin; refine wpList_push rfl _ _ 39 rfl (w.heap.size + 2) 3 i0 (.int .i64 0) 8 Tryd.underlying39 hi hz0 hz1 hz2 rfl intN (fun _ => rfl) _ _ rfl HOW.out _ _ rfl h63 h64 hszx xi rfl ?_; intro v' w8 hown' hb' hnn; have HO' := Lib.hid hown'; have HB' := Lib.hid hb'; clear hown' hb')
        go_roundw
        case rel => exact ⟨k + 1, v', Hlt.out, by go_num, rfl, by rw [HTK.out, HX.out]; exact HO'.out, HBX.out.trans (HB'.out.mono (by omega)), row_below HB'.out RN.out (by omega), row_below HB'.out RL.out (by omega)⟩
        case measure => have := Hlt.out; simp [intOf]; omega
      · have d3 : ((rp : Int) == 3) = false := by simpa using h3
        have HX := Lib.hid (HNO.out h3)
        clear h3
        go_wp2_with fail
        go_roundw
        case rel => exact ⟨k + 1, v5, Hlt.out, by go_num, rfl, by rw [HTK.out, HX.out, List.append_nil]; exact HOW.out, HBX.out, RN.out, RL.out⟩
        case measure => have := Hlt.out; simp [intOf]; omega
    · obtain rfl : k = m := by omega
      have hO := HOW.out
      rw [List.take_of_length_le (Nat.le_of_eq HML.out)] at hO
      have HO2 := Lib.hid hO
      clear hO
      have cL := rowc RL.out
      go_wp2_with fail
      go_ret
      exact ⟨⟨v5, rfl, own_baseN HO2.out (by omega)⟩, HBr.out⟩
end Go.Proofs.YtfmdahfolnljkaaDoor
