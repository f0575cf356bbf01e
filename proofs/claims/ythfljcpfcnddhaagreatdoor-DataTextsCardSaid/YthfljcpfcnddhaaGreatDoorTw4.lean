/- The walks of schema.Valid's closure for IDs, and of schema.Valid. -/
import Derived.Test.YthfljcpfcnddhaaGreatDoorTw2
import Derived.Test.YthfljcpfcnddhaaGreatDoorTw3
namespace Go.Proofs.YthfljcpfcnddhaaGreatDoor
set_option linter.unusedVariables false
set_option linter.unusedSimpArgs false
open Go Go.RowKit Go.ChangeShapes

/-- append of one one-cell element: what grows is said -/
theorem wpList_pushG {P : Program} {wr : World} {ops : Array Oper} {rest : List Oper} {o : Oper} {a : Act} {Q : Exit → Act → World → Prop} (hg : o.guard = none) (s x : Operand) (t : TypeId)
    (ho : o.op = .call { callee := .builtin .append, args := #[s, x], argTypes := #[t, t] })
    (base : Nat) (e : TypeId) (i : TypeInfo) (z : Value) (bytes : Nat) (ht : P.underlying t = some (.slice e)) (hi : P.info? e = some i) (hz : i.zero = some z)
    (hsize : i.size = 1) (hby : i.bytes = bytes) (hzs : z.cells.size = 1)
    {α : Type} (f : α → Value) (hf : ∀ y, (f y).oneCell' = true)
    (v : Value) (l : List α) (hs : a.eval s = v) (hown : wr.ownsRow base e 1 v l.length (l.map f)) (e' : TypeId) (u : Value) (hx : a.eval x = .slice (some ⟨wr.heap.size, 0, none⟩) 1 1)
    (h63 : l.length + 1 ≤ maxLen) (hbytes : (l.length + 1) * bytes ≤ 140737488355328) (hbase : base ≤ wr.heap.size) (y : α) (hu : u = f y)
    (h : ∀ v' w', w'.ownsRow base e 1 v' (l ++ [y]).length ((l ++ [y]).map f) → (wr.alloc (.cells #[u] e')).grownBy w' v.ownBlock → wpList P ops Q rest (a.put o.dst v') w') :
    wpList P ops Q (o :: rest) a (wr.alloc (.cells #[u] e')) := by
  subst hu
  refine wpList_append_own _ hg s x t ho base e i z 1 bytes ht hi hz hsize hby hzs (by omega) v l.length (l.map f) hs (hown.alloc _) ⟨wr.heap.size, 0, none⟩ 1 1 [f y] hx (by simp) ?_ ?_ h63 hbytes (by simp; omega) ?_
  · intro j u hj
    cases j with
    | zero => simp at hj; subst hj; simp [go_sem]
    | succ j => simp at hj
  · intro u hu; simp at hu; subst hu; exact hf y
  · intro v' w' h1 h2 h3
    exact h v' w' (by simpa using h1) h2
/-- a block of another type is not the row -/
theorem own_neB {w : World} {B s n b : Nat} {e T : TypeId} {v : Value} {xs : List Value} {cs : Array Value} {fr : Nat × Nat} (h : w.ownsRow B e s v n xs) (hb : w.heap[b]? = some (.cells cs T fr)) (he : T ≠ e) : v.ownBlock ≠ some b := by
  rcases h.2 with ⟨rfl, _⟩ | ⟨g, cap, cur, rfl, _, hg, _⟩
  · simp [Value.ownBlock]
  · intro hh
    simp only [Value.ownBlock, Option.some.injEq] at hh
    subst hh
    rw [hg] at hb
    injection hb with hb
    injection hb with _ h2 _
    exact he h2.symm
theorem own_setB {w : World} {B n s b q : Nat} {e T : TypeId} {v : Value} {xs : List Value} {cs : Array Value} (h : w.ownsRow B e s v n xs) (hb : w.heap[b]? = some (.cells cs T (0, 0))) (he : T ≠ e) (y : Value) :
    (w.setCell ⟨b, q, none⟩ y).ownsRow B e s v n xs :=
  h.kept (row := some b) ⟨rfl, rfl, rfl, by simp [World.setCell], fun k _ hk => Below.heap_setCell _ _ _ _ (fun e : k = b => hk (by rw [e]))⟩ (Or.inr (own_neB h hb he))
/-- a block of another type stays where the row grows -/
theorem grown_row {w w' : World} {B s n b : Nat} {e T : TypeId} {v : Value} {xs : List Value} {cs : Array Value} {fr : Nat × Nat} {o : Obj} (hown : w.ownsRow B e s v n xs) (hg : (w.alloc o).grownBy w' v.ownBlock) (hb : w.heap[b]? = some (.cells cs T fr)) (he : T ≠ e) :
    w'.heap[b]? = some (.cells cs T fr) := by
  have hl := row_lt hb
  rw [hg.block b (by simp; omega) (fun e1 => own_neB hown hb he e1.symm), Below.heap_alloc w o b hl]
  exact hb
theorem Kp.grown {B B' : Nat} {M : Nat → Prop} {a w w' : World} {s n : Nat} {e : TypeId} {v : Value} {xs : List Value} {o : Obj} (h : Kp B M a w) (hown : w.ownsRow B' e s v n xs) (he : 24 ≠ e ∧ 31 ≠ e) (hB : B ≤ B') (hBw : B ≤ w.heap.size) (hg : (w.alloc o).grownBy w' v.ownBlock) : Kp B M a w' := by
  refine h.trans ⟨((Below.refl _ _).alloc hBw o).grown hg (by simp; omega) (fun k hk => ?_), fun g cs T fz hT _ hb => ?_⟩
  · have := (hown.lt k hk).1; omega
  · rcases hT with rfl | rfl
    · exact grown_row hown hg hb he.1
    · exact grown_row hown hg hb he.2
theorem own_form {w : World} {B n s : Nat} {e : TypeId} {v : Value} {xs : List Value} (h : w.ownsRow B e s v n xs) : ∃ ad cap, v = .slice ad n cap := by
  rcases h.2 with ⟨h1, h0⟩ | ⟨g, cap, cur, hv, _⟩
  · exact ⟨none, 0, by rw [h1, h0]⟩
  · exact ⟨_, cap, hv⟩
def intN (x : Int) : Value := .int .i64 x
theorem info_intN : (Tryz.prog.info? 3).map (fun i => (i.zero, i.size, i.bytes)) = some (some (.int .i64 0), 1, 8) := by kernel_rfl
/-- slices.Contains of a row of numbers of the call's own -/
theorem hasI_own {w : World} {B : Nat} {v : Value} {l : List Int} (hown : w.ownsRow B 3 1 v l.length (l.map intN)) (hm : l.length ≤ 2199023255552) (x : Int) :
    Calls Tryz.prog 48 #[v, .int .i64 x] w fun e w' => e = .returned (.bool (decide (x ∈ l))) ∧ w' = w := by
  rcases hown.2 with ⟨rfl, h0⟩ | ⟨g, cap, cur, rfl, _⟩
  · have : l = [] := List.eq_nil_of_length_eq_zero h0
    subst this
    exact Tryz.slices_Contains_int_empty none 0 x w
  · have h := Tryz.slices_Contains_int g 0 l.length cap l x w (Nat.le_refl _) (by omega) fun j hj => by
      rw [Nat.zero_add, hown.cellAt j (by omega), List.getElem?_map, List.getElem?_eq_getElem hj, List.getD_eq_getElem?_getD, List.getElem?_eq_getElem hj]; rfl
    rw [List.take_of_length_le (Nat.le_refl _)] at h
    have e : l.contains x = decide (x ∈ l) := by simp
    rw [e] at h
    exact h
/-- the variable of IDs -/
def IdsAt (b : Nat) (m : Nat) (s : List Int) (w : World) : Prop := ∃ v, w.heap[b]? = some (.cells #[v] 52 (0, 0)) ∧ w.ownsRow (b + 1) 3 1 v s.length (s.map intN) ∧ s.length + m ≤ 1000000

set_option maxRecDepth 100000 in
set_option maxHeartbeats 8000000 in
theorem valid5_any (B : Nat) (P : Nat → Prop) (b : Nat) (hb : B ≤ b) (hP : ∀ b, P b → b < B) : OkAt B P (fun _ => False) (IdsAt b) idsG 72 #[.pointer (some ⟨b, 0, none⟩)] := by
  intro m n u s w hB hI hN hO
  obtain ⟨v, hv, hown, hsm⟩ := hI
  obtain ⟨ad, cp, rfl⟩ := hN.form
  obtain ⟨i0, hi, hz0, hz1, hz2⟩ := info_parts info_intN
  have HV := Lib.hid hv; have HO := Lib.hid hown
  clear hv hown hO hN
  obtain ⟨R, hR⟩ : ∃ R, (idsG n s).1 = R := ⟨_, rfl⟩
  have hr2 : (idsG n s).2 = s ++ [n.id] := rfl
  rw [hR, hr2]
  obtain ⟨q, hq⟩ : ∃ q, decide (n.id ∈ s) = q := ⟨_, rfl⟩
  have hR' : (decide (1 ≤ n.id) && decide (n.id ≤ 1000) && !q) = R := by rw [← hq]; exact hR
  clear hR hr2
  have HRr := Lib.hid hR'; have HQ := Lib.hid hq
  clear hR' hq
  unfold ndA at *
  go_enter Tryz.func72, Tryz.ntmps72
  go_upto_region 1 with fail
  have hw : Below w.heap.size w (w.alloc (.cells #[.int .i64 n.id, .string n.name, .int .i64 n.rep, .int .i64 n.kind, .slice ad n.sub.length cp] 24)) := (Below.refl _ _).alloc (Nat.le_refl _) _
  have HK := Lib.hid (Kp.of_below (B := B) (M := fun _ => False) hw hB)
  have hrx := heap_alloc_new w (.cells #[.int .i64 n.id, .string n.name, .int .i64 n.rep, .int .i64 n.kind, .slice ad n.sub.length cp] 24)
  replace HV := Lib.hid (row_keep hw HV.out); replace HO := Lib.hid (own_blw HO.out hw); have RX := Lib.hid hrx
  have hbz : B ≤ (w.alloc (.cells #[.int .i64 n.id, .string n.name, .int .i64 n.rep, .int .i64 n.kind, .slice ad n.sub.length cp] 24)).heap.size := Nat.le_trans hB hw.size
  generalize (w.alloc (.cells #[.int .i64 n.id, .string n.name, .int .i64 n.rep, .int .i64 n.kind, .slice ad n.sub.length cp] 24)) = w1 at *
  clear hw hrx
  obtain ⟨av, cv, hvf⟩ := own_form HO.out
  subst hvf
  have hbz1 : b + 1 ≤ w1.heap.size := row_lt HV.out
  have h63 : s.length + 1 ≤ maxLen := by unfold maxLen; omega
  have h64 : (s.length + 1) * 8 ≤ 140737488355328 := by omega
  have HC := Lib.hid (HQ.out ▸ hasI_own HO.out (by omega) n.id)
  have HSM := Lib.hid hsm
  clear hsm
  have c1 := rowc HV.out; have f1 := rowf HV.out; have c2 := rowc RX.out
  by_cases h1 : 1 ≤ n.id
  · have d1 : decide (1 ≤ n.id) = true := decide_eq_true h1
    by_cases h2 : n.id ≤ 1000
    · have d2 : decide (n.id ≤ 1000) = true := decide_eq_true h2
      go_wp2_with (first
        | (go_at_call 48; refine HC.out.mono ?_; rintro e w9 ⟨rfl, hw9⟩; subst hw9)
        | (at_builtin; refine wpList_pushG rfl _ _ 52 rfl (b + 1) 3 i0 (.int .i64 0) 8 Tryz.underlying52 hi hz0 hz1 hz2 rfl intN (fun _ => rfl) _ _ rfl HO.out _ _ rfl h63 h64 hbz1 n.id rfl ?_; intro v' w2 hown' hgr; obtain ⟨av2, cv2, rfl⟩ := own_form hown'; have hb2 := grown_row HO.out hgr HV.out (by decide); have HV2 := Lib.hid hb2; have HO2 := Lib.hid hown'; have HK2 := Lib.hid (HK.out.grown HO.out ⟨by decide, by decide⟩ (Nat.le_succ_of_le hb) hbz hgr); clear hown' hgr; clear c1 f1 c2; have c3 := rowc hb2; have f3 := rowf hb2; clear hb2))
      go_ret
      refine ⟨ret_of ?_, ⟨_, by rw [heap_setCell_same _ _ _ _ _ _ HV2.out]; simp, own_setB HO2.out HV2.out (by decide) _, by have := HSM.out; simp; omega⟩, HK2.out.setCell hb ⟨by decide, by decide⟩ HV2.out⟩
      rw [← HRr.out, d1, d2]; first | rfl | simp
    · have d2 : decide (n.id ≤ 1000) = false := decide_eq_false h2
      clear h2
      go_wp2_with (first
        | (go_at_call 48; refine HC.out.mono ?_; rintro e w9 ⟨rfl, hw9⟩; subst hw9)
        | (at_builtin; refine wpList_pushG rfl _ _ 52 rfl (b + 1) 3 i0 (.int .i64 0) 8 Tryz.underlying52 hi hz0 hz1 hz2 rfl intN (fun _ => rfl) _ _ rfl HO.out _ _ rfl h63 h64 hbz1 n.id rfl ?_; intro v' w2 hown' hgr; obtain ⟨av2, cv2, rfl⟩ := own_form hown'; have hb2 := grown_row HO.out hgr HV.out (by decide); have HV2 := Lib.hid hb2; have HO2 := Lib.hid hown'; have HK2 := Lib.hid (HK.out.grown HO.out ⟨by decide, by decide⟩ (Nat.le_succ_of_le hb) hbz hgr); clear hown' hgr; clear c1 f1 c2; have c3 := rowc hb2; have f3 := rowf hb2; clear hb2))
      go_ret
      refine ⟨ret_of ?_, ⟨_, by rw [heap_setCell_same _ _ _ _ _ _ HV2.out]; simp, own_setB HO2.out HV2.out (by decide) _, by have := HSM.out; simp; omega⟩, HK2.out.setCell hb ⟨by decide, by decide⟩ HV2.out⟩
      rw [← HRr.out, d1, d2]; first | rfl | simp
  · have d1 : decide (1 ≤ n.id) = false := decide_eq_false h1
    clear h1
    go_wp2_with (first
      | (go_at_call 48; refine HC.out.mono ?_; rintro e w9 ⟨rfl, hw9⟩; subst hw9)
      | (at_builtin; refine wpList_pushG rfl _ _ 52 rfl (b + 1) 3 i0 (.int .i64 0) 8 Tryz.underlying52 hi hz0 hz1 hz2 rfl intN (fun _ => rfl) _ _ rfl HO.out _ _ rfl h63 h64 hbz1 n.id rfl ?_; intro v' w2 hown' hgr; obtain ⟨av2, cv2, rfl⟩ := own_form hown'; have hb2 := grown_row HO.out hgr HV.out (by decide); have HV2 := Lib.hid hb2; have HO2 := Lib.hid hown'; have HK2 := Lib.hid (HK.out.grown HO.out ⟨by decide, by decide⟩ (Nat.le_succ_of_le hb) hbz hgr); clear hown' hgr; clear c1 f1 c2; have c3 := rowc hb2; have f3 := rowf hb2; clear hb2))
    go_ret
    refine ⟨ret_of ?_, ⟨_, by rw [heap_setCell_same _ _ _ _ _ _ HV2.out]; simp, own_setB HO2.out HV2.out (by decide) _, by have := HSM.out; simp; omega⟩, HK2.out.setCell hb ⟨by decide, by decide⟩ HV2.out⟩
    rw [← HRr.out, d1]; first | rfl | simp
theorem root_name (s : ByteArray) : s = rootName ↔ s.toList = [114, 111, 111, 116] := by
  rw [ByteArray.toList_eq]
  constructor
  · rintro rfl; rfl
  · intro h
    rw [← ba_mk s, h]; rfl

end Go.Proofs.YthfljcpfcnddhaaGreatDoor
