/- The document's list of places: in memory; the walk of flat and Flat. -/
import Derived.Test.YthfljcpfcnddhaaGreatDoorTw4
import Derived.Deep.AppendLies
namespace Go.Proofs.YthfljcpfcnddhaaGreatDoor
set_option linter.unusedVariables false
set_option linter.unusedSimpArgs false
open Go Go.RowKit Go.ChangeShapes

/-- append of one element of some cells: what grows is said -/
theorem wpList_pushRow {P : Program} {wr : World} {ops : Array Oper} {rest : List Oper} {o : Oper} {a : Act} {Q : Exit → Act → World → Prop} (hg : o.guard = none) (s x : Operand) (t : TypeId)
    (ho : o.op = .call { callee := .builtin .append, args := #[s, x], argTypes := #[t, t] })
    (base : Nat) (e : TypeId) (i : TypeInfo) (z : Value) (k bytes : Nat) (ht : P.underlying t = some (.slice e)) (hi : P.info? e = some i) (hz : i.zero = some z)
    (hsize : i.size = k) (hby : i.bytes = bytes) (hzs : z.cells.size = k) (hk0 : 0 < k)
    {α : Type} (f : α → List Value) (hfk : ∀ y, (f y).length = k) (hf : ∀ y, ∀ u ∈ f y, u.oneCell' = true)
    (v : Value) (l : List α) (hs : a.eval s = v) (hown : wr.ownsRow base e k v l.length (l.flatMap f)) (e' : TypeId) (g : Nat) (hx : a.eval x = .slice (some ⟨g, 0, none⟩) 1 1) (hgs : g = wr.heap.size)
    (h63 : l.length + 1 ≤ maxLen) (hbytes : (l.length + 1) * bytes ≤ 140737488355328) (hbase : base ≤ wr.heap.size) (y : α) (cs : Array Value) (hcs : cs.toList = f y)
    (h : ∀ v' w', w'.ownsRow base e k v' (l ++ [y]).length ((l ++ [y]).flatMap f) → (wr.alloc (.cells cs e')).grownBy w' v.ownBlock → (v'.ownBlock = v.ownBlock ∨ v'.ownBlock = some (wr.heap.size + 1)) → wpList P ops Q rest (a.put o.dst v') w') :
    wpList P ops Q (o :: rest) a (wr.alloc (.cells cs e')) := by
  subst hgs
  refine wpList_plain hg fun K hK => ?_
  obtain ⟨v', w', hr, h2, h3, _, h5⟩ := run_append_own_at (P := P) (wr.alloc (.cells cs e')) base t o.type e i z k bytes ht hi hz hsize hby hzs hk0 v l.length (l.flatMap f) (hown.alloc _) ⟨wr.heap.size, 0, none⟩ 1 1 (f y) (by rw [hfk]; omega) (by
    intro j u hj
    rw [Go.WideShapes.add_plain, World.cell?_alloc_at _ _ _ _ rfl, Nat.zero_add, ← Array.getElem?_toList, hcs, hj]) (hf y) h63 hbytes (by simp; omega)
  unfold Oper.wp execOp
  simp only [ho, resolve, invoke, builtin, Sem.run_bind, Sem.run_pure, Result.andThen_ok, List.map_toArray, List.map_cons, List.map_nil, hs, hx, hr]
  exact hK _ _ (h v' w' (by simpa using h2) h3 (by simpa using h5))

/-- .. at an operation, the element's cells lying in a block -/
theorem wp_pushRow {P : Program} {wr : World} {o : Oper} {a : Act} {K : Act → World → Prop} {Q : Exit → Act → World → Prop} (s x : Operand) (t : TypeId)
    (ho : o.op = .call { callee := .builtin .append, args := #[s, x], argTypes := #[t, t] })
    (base : Nat) (e : TypeId) (i : TypeInfo) (z : Value) (k bytes : Nat) (ht : P.underlying t = some (.slice e)) (hi : P.info? e = some i) (hz : i.zero = some z)
    (hsize : i.size = k) (hby : i.bytes = bytes) (hzs : z.cells.size = k) (hk0 : 0 < k)
    {α : Type} (f : α → List Value) (hfk : ∀ y, (f y).length = k) (hf : ∀ y, ∀ u ∈ f y, u.oneCell' = true)
    (v : Value) (l : List α) (hs : a.eval s = v) (hown : wr.ownsRow base e k v l.length (l.flatMap f)) (g : Nat) (hx : a.eval x = .slice (some ⟨g, 0, none⟩) 1 1) (y : α) (cs : Array Value) (e' : TypeId) (hg : wr.heap[g]? = some (.cells cs e' (0, 0)))
    (hcs : cs.toList = f y) (h63 : l.length + 1 ≤ maxLen) (hbytes : (l.length + 1) * bytes ≤ 140737488355328) (hbase : base ≤ wr.heap.size)
    (h : ∀ v' w', w'.ownsRow base e k v' (l ++ [y]).length ((l ++ [y]).flatMap f) → wr.grownBy w' v.ownBlock → (v'.ownBlock = v.ownBlock ∨ v'.ownBlock = some wr.heap.size) → K (a.put o.dst v') w') : Oper.wp P o a wr K Q := by
  obtain ⟨v', w', hr, h2, h3, _, h5⟩ := run_append_own_at (P := P) wr base t o.type e i z k bytes ht hi hz hsize hby hzs hk0 v l.length (l.flatMap f) hown ⟨g, 0, none⟩ 1 1 (f y) (by rw [hfk]; omega) (by
    intro j u hj
    rw [Go.WideShapes.add_plain, Nat.zero_add, rowc hg, ← Array.getElem?_toList, hcs, hj]) (hf y) h63 hbytes hbase
  unfold Oper.wp execOp
  simp only [ho, resolve, invoke, builtin, Sem.run_bind, Sem.run_pure, Result.andThen_ok, List.map_toArray, List.map_cons, List.map_nil, hs, hx, hr]
  exact h v' w' (by simpa using h2) h3 h5
theorem step_pushRow {P : Program} {wr : World} {ops : Array Oper} {o : Oper} {a : Act} {K : Act → World → Prop} {Q : Exit → Act → World → Prop} {E : Prop} (hgd : o.guard = none) (s x : Operand) (t : TypeId)
    (ho : o.op = .call { callee := .builtin .append, args := #[s, x], argTypes := #[t, t] })
    (base : Nat) (e : TypeId) (i : TypeInfo) (z : Value) (k bytes : Nat) (ht : P.underlying t = some (.slice e)) (hi : P.info? e = some i) (hz : i.zero = some z)
    (hsize : i.size = k) (hby : i.bytes = bytes) (hzs : z.cells.size = k) (hk0 : 0 < k)
    {α : Type} (f : α → List Value) (hfk : ∀ y, (f y).length = k) (hf : ∀ y, ∀ u ∈ f y, u.oneCell' = true)
    (v : Value) (l : List α) (hs : a.eval s = v) (hown : wr.ownsRow base e k v l.length (l.flatMap f)) (g : Nat) (hx : a.eval x = .slice (some ⟨g, 0, none⟩) 1 1) (y : α) (cs : Array Value) (e' : TypeId) (hg : wr.heap[g]? = some (.cells cs e' (0, 0)))
    (hcs : cs.toList = f y) (h63 : l.length + 1 ≤ maxLen) (hbytes : (l.length + 1) * bytes ≤ 140737488355328) (hbase : base ≤ wr.heap.size)
    (h : ∀ v' w', w'.ownsRow base e k v' (l ++ [y]).length ((l ++ [y]).flatMap f) → wr.grownBy w' v.ownBlock → (v'.ownBlock = v.ownBlock ∨ v'.ownBlock = some wr.heap.size) → K (a.put o.dst v') w') :
    if Region.wanted o (yielded ops a.tmps) = true then Oper.wp P o a wr K Q else E := by
  have hw : Region.wanted o (yielded ops a.tmps) = true := by simp [Region.wanted, hgd]
  rw [if_pos hw]
  exact wp_pushRow s x t ho base e i z k bytes ht hi hz hsize hby hzs hk0 f hfk hf v l hs hown g hx y cs e' hg hcs h63 hbytes hbase h

/-- a place with what stands in its node -/
structure PlV where
  n : Nd
  u : Value
  deep : Int
  around : Int
def PlV.pl (p : PlV) : Pl := ⟨p.n, p.deep, p.around⟩
/-- a value of one cell, whatever it is -/
def cell1 (u : Value) : Value := if u.oneCell' = true then u else .nilIface
theorem cell1_one (u : Value) : (cell1 u).oneCell' = true := by unfold cell1; split <;> first | assumption | rfl
def plCells (p : PlV) : List Value := [.int .i64 p.n.id, .string p.n.name, .int .i64 p.n.rep, .int .i64 p.n.kind, cell1 p.u, .int .i64 p.deep, .int .i64 p.around]
theorem plCells_one (p : PlV) : ∀ u ∈ plCells p, u.oneCell' = true := by
  intro u hu
  simp only [plCells, List.mem_cons, List.not_mem_nil, or_false] at hu
  rcases hu with rfl | rfl | rfl | rfl | rfl | rfl | rfl <;> first | rfl | exact cell1_one _
theorem pl_info : (Tryz.prog.info? 79).map (fun i => (i.zero, i.size, i.bytes)) = some (some (.agg #[.int .i64 0, .string ByteArray.empty, .int .i64 0, .int .i64 0, .slice none 0 0, .int .i64 0, .int .i64 0]), 7, 80) := by kernel_rfl
/-- the list as the document's walk has it -/
def PlsOk (P : Nat → Prop) (w : World) (L : List PlV) : Prop := ∀ p ∈ L, IsNds P w p.u p.n.sub
theorem flatF_len : (∀ n, ∀ (l : List Pl) (k ar : Int), l.length ≤ 2001 → (flatF l n k ar).length ≤ 2001) ∧ ∀ s, ∀ (l : List Pl) (k ar : Int), l.length ≤ 2001 → (flatFL l s k ar).length ≤ 2001 := by
  refine tree2 (fun n h l k ar hl => ?_) (fun l k ar hl => ?_) (fun x r h1 h2 l k ar hl => ?_)
  · rw [flatF_eq]
    split
    · exact hl
    · exact h _ _ _ (by simp; omega)
  · simpa [flatFL] using hl
  · simp only [flatFL]; exact h2 _ _ _ (h1 _ _ _ hl)
theorem own_len {w : World} {B n m s : Nat} {e : TypeId} {v : Value} {xs : List Value} (h : w.ownsRow B e s v n xs) (hm : m = n) : w.ownsRow B e s v m xs := by subst hm; exact h
/-- what flat hands back -/
def FlatRet (B : Nat) (w0 : World) (F : List Pl) (e : Ending) (w : World) : Prop :=
  ∃ v L, e = .returned v ∧ w.ownsRow B 79 7 v L.length (L.flatMap plCells) ∧ L.map PlV.pl = F ∧ PlsOk (· < B) w L ∧ Kp B (fun _ => False) w0 w

set_option maxRecDepth 100000 in
set_option maxHeartbeats 8000000 in
theorem flat_any (B : Nat) : ∀ (n : Nd), ∀ (u v : Value) (L : List PlV) (k ar : Int) (w : World), B ≤ w.heap.size → IsNds (· < B) w u n.sub → (∀ x ∈ nodes n, x.Ok1) → w.ownsRow B 79 7 v L.length (L.flatMap plCells) → PlsOk (· < B) w L →
    L.length ≤ 2001 → 0 ≤ k → k ≤ 101 → -1 ≤ ar → ar ≤ 100000 →
    Calls Tryz.prog 58 #[v, .agg (ndA n u), .int .i64 k, .int .i64 ar] w (FlatRet B w (flatF (L.map PlV.pl) n k ar)) := by
  apply Nd.ind
  intro n IH u v L k ar w hB hN hO hown hok hlL hk0 hk1 ha0 ha1
  have hOs : ∀ x ∈ nodesL n.sub, x.Ok1 := fun x hx => hO x (by rw [nodes_eq]; exact List.mem_cons_of_mem _ hx)
  have hO1 := hO n (by rw [nodes_eq]; exact List.mem_cons_self ..)
  have hlen := hO1.sub
  obtain ⟨F, hF⟩ : ∃ F, flatF (L.map PlV.pl) n k ar = F := ⟨_, rfl⟩
  rw [hF]
  rw [flatF_eq, List.length_map] at hF
  obtain ⟨l, hl⟩ : ∃ l, n.sub = l := ⟨_, rfl⟩
  obtain ⟨ad, cp, rfl⟩ := hN.form
  obtain ⟨av, cv, rfl⟩ := own_form hown
  rw [hl] at hN hF hlen hOs IH ⊢
  obtain ⟨len, hnl⟩ : ∃ len, l.length = len := ⟨_, rfl⟩
  rw [hnl] at hN hlen ⊢
  obtain ⟨N, hLN⟩ : ∃ N, L.length = N := ⟨_, rfl⟩
  rw [hLN] at hown hlL hF ⊢
  have HLN := Lib.hid hLN; have HL := Lib.hid hnl; have HF := Lib.hid hF; have HN := Lib.hid hN; have HOs := Lib.hid hOs; have HIH := Lib.hid IH; have HOK := Lib.hid hok; have HOW := Lib.hid hown
  have HNS := Lib.hid hl
  clear hLN hnl hl hF hN hOs IH hO hO1 hok hown
  unfold ndA
  obtain ⟨i0, hi, hz0, hz1, hz2⟩ := info_parts pl_info
  have hw1 : Below w.heap.size w (w.alloc (.cells #[.int .i64 n.id, .string n.name, .int .i64 n.rep, .int .i64 n.kind, .slice ad len cp] 24)) := (Below.refl _ _).alloc (Nat.le_refl _) _
  have HW1 := Lib.hid hw1
  have HR1 := Lib.hid (heap_alloc_new w (.cells #[.int .i64 n.id, .string n.name, .int .i64 n.rep, .int .i64 n.kind, .slice ad len cp] 24))
  clear hw1
  by_cases hc : 2000 < N ∨ 100 < k
  case pos =>
    have HF2 := HF.out
    rw [if_pos hc] at HF2
    have HF3 := Lib.hid HF2
    clear HF2
    by_cases h1 : 2000 < N
    · have d1 : decide ((2000 : Int) < (N : Int)) = true := decide_eq_true (by omega)
      clear hc h1
      go_enter Tryz.func58, Tryz.ntmps58
      go_wp2_with fail
      go_ret
      exact ⟨_, L, rfl, own_len (own_blw HOW.out HW1.out) HLN.out, HF3.out, fun p hp => (HOK.out p hp).under (HW1.out.mono hB), Kp.of_below HW1.out hB⟩
    · have d1 : decide ((2000 : Int) < (N : Int)) = false := decide_eq_false (by omega)
      have h2 : 100 < k := hc.resolve_left h1
      have d2 : decide (100 < k) = true := decide_eq_true h2
      clear hc h1 h2
      go_enter Tryz.func58, Tryz.ntmps58
      go_wp2_with fail
      go_ret
      exact ⟨_, L, rfl, own_len (own_blw HOW.out HW1.out) HLN.out, HF3.out, fun p hp => (HOK.out p hp).under (HW1.out.mono hB), Kp.of_below HW1.out hB⟩
  have d1 : decide ((2000 : Int) < (N : Int)) = false := decide_eq_false (by omega)
  have d2 : decide (100 < k) = false := decide_eq_false fun h => hc (.inr h)
  have hk2 : k ≤ 100 := by omega
  have HF2 := HF.out
  rw [if_neg hc] at HF2
  have hlL2 : N ≤ 2000 := by omega
  clear HF hc
  have HF := Lib.hid HF2
  clear HF2
  go_enter Tryz.func58, Tryz.ntmps58
  go_upto_region 4 with fail
  replace HOW := Lib.hid (own_blw HOW.out HW1.out); replace HOK := Lib.hid (show PlsOk (· < B) _ L from fun p hp => (HOK.out p hp).under (HW1.out.mono hB)); have HK := Lib.hid (Kp.of_below (M := fun _ => False) HW1.out hB)
  have hbz := Nat.le_trans hB HW1.out.size
  generalize (w.alloc (.cells #[.int .i64 n.id, .string n.name, .int .i64 n.rep, .int .i64 n.kind, .slice ad len cp] 24)) = w1 at *
  clear HW1
  have RN := Lib.hid HR1.out
  clear HR1
  have cN := rowc RN.out
  have h63 : L.length + 1 ≤ maxLen := by have := HLN.out; unfold maxLen; omega
  have h64 : (L.length + 1) * 80 ≤ 140737488355328 := by have := HLN.out; omega
  obtain ⟨p, hp⟩ : ∃ p : PlV, p = ⟨n, .slice ad len cp, k, ar⟩ := ⟨_, rfl⟩
  have HPC := Lib.hid (show [.int .i64 n.id, .string n.name, .int .i64 n.rep, .int .i64 n.kind, .slice ad len cp, .int .i64 k, .int .i64 ar] = plCells p by subst hp; rfl)
  have HPL := Lib.hid (show p.pl = ⟨n, k, ar⟩ by subst hp; rfl)
  have HPO := Lib.hid (show ∀ W, IsNds (· < B) W (.slice ad len cp) l → IsNds (· < B) W p.u p.n.sub by subst hp; intro W h; rw [HNS.out]; exact h)
  clear hp
  go_wp2_with (at_builtin; refine wpList_pushRow rfl _ _ 76 rfl B 79 i0 _ 7 80 Tryz.underlying76 hi hz0 hz1 hz2 rfl (by decide) plCells (fun _ => rfl) plCells_one _ L rfl (own_len HOW.out HLN.out) _ _ rfl rfl h63 h64 hbz p _ HPC.out ?_; intro v' w2 hown' hgr _; have HO2 := Lib.hid hown'; have HG2 := Lib.hid hgr; clear hown' hgr)
  have hkg : Kp B (fun _ => False) w1 w2 := (Kp.refl B _ w1).grown HOW.out ⟨by decide, by decide⟩ (Nat.le_refl _) hbz HG2.out
  replace RN := Lib.hid (hkg.keep _ _ _ _ (.inl rfl) id RN.out)
  replace HK := Lib.hid (HK.out.trans hkg)
  have hok2 : PlsOk (· < B) w2 (L ++ [p]) := fun q hq => by
    rcases List.mem_append.1 hq with hq | hq
    · exact (HOK.out q hq).under hkg.below
    · obtain rfl : q = p := by simpa using hq
      exact HPO.out w2 (HN.out.under HK.out.below)
  have hm2 : (L ++ [p]).map PlV.pl = L.map PlV.pl ++ [⟨n, k, ar⟩] := by simp [HPL.out]
  have hl2 : (L ++ [p]).length ≤ 2001 := by have := HLN.out; simp; omega
  have HF0 := HF.out
  rw [← hm2] at HF0
  have HL2 := Lib.hid hl2; have HOK2 := Lib.hid hok2; have HF2 := Lib.hid HF0
  clear hkg hok2 hm2 hl2 HF0 HF HPL HPO HPC HOK HOW cN h63 h64 HG2
  generalize L ++ [p] = L2 at *
  clear HLN
  go_loopw [0, 10] (fun s0 i wr => ∃ (j : Nat) (v3 : Value) (L3 : List PlV), j ≤ len ∧ i = .int .i64 (j : Nat) ∧ v3 = s0 ∧ Hid (wr.ownsRow B 79 7 v3 L3.length (L3.flatMap plCells)) ∧ Hid (flatFL (L3.map PlV.pl) (l.drop j) (k + 1) (N : Nat) = F) ∧ Hid (PlsOk (· < B) wr L3) ∧ Hid (L3.length ≤ 2001) ∧ Hid (Kp B (fun _ => False) w wr) ∧ wr.heap[w.heap.size]? = some (.cells #[.int .i64 n.id, .string n.name, .int .i64 n.rep, .int .i64 n.kind, .slice ad len cp] 24 (0, 0))) (fun _ i _ => len - (intOf i).toNat)
  case atStart => exact ⟨0, _, L2, Nat.zero_le _, rfl, rfl, HO2.out, HF2.out, HOK2.out, HL2.out, HK.out, RN.out⟩
  case round =>
    obtain ⟨j, v3, L3, hj, rfl, hv3, HO, HFj, HOKj, HLj, HKj, rN⟩ := hrel
    subst hv3
    clear RN HK HL2 HOK2 HF2 HO2
    have RN := Lib.hid rN
    clear rN
    have hbz3 := Nat.le_trans hB HKj.out.below.size
    by_cases hlt : j < len
    · have hjl : j < l.length := by rw [HL.out]; exact hlt
      obtain ⟨b0, off, rfl, hPb, hb0, hat⟩ := (HN.out.under HKj.out.below).at (by omega)
      obtain ⟨ux, hcx, hnx⟩ := hat j l[j] (List.getElem?_eq_getElem hjl)
      have hdr : l.drop j = l[j] :: l.drop (j + 1) := List.drop_eq_getElem_cons hjl
      have hOx : ∀ y ∈ nodes l[j], y.Ok1 := fun y hy => HOs.out y (nodesL_mem (List.getElem_mem hjl) hy)
      have hIx := HIH.out l[j] (List.getElem_mem hjl)
      have hin : (j : Int) < (len : Int) := by omega
      have Hlt := Lib.hid hlt
      have hE2 := HFj.out
      rw [hdr] at hE2
      simp only [flatFL] at hE2
      generalize l[j] = x at *
      obtain ⟨ax, cx, rfl⟩ := hnx.form
      unfold NdAt ndA at hcx
      have HCX := Lib.hid hcx; have HE2 := Lib.hid hE2
      have HCL := Lib.hid (hIx (.slice ax x.sub.length cx) v3 L3 (k + 1) (N : Nat) wr hbz3 hnx hOx HO.out HOKj.out HLj.out (by omega) (by omega) (by omega) (by omega))
      unfold ndA at HCL
      have HL3 := Lib.hid HLj.out
      clear hat hjl hdr hOx hIx hcx hPb hE2 hnx HFj HO HOKj HLj
      have cN := rowc RN.out
      go_wp2_with (refine wpList_load_cells rfl 24 _ rfl b0 (off + j * 5) rfl #[.int .i64 x.id, .string x.name, .int .i64 x.rep, .int .i64 x.kind, .slice ax x.sub.length cx] _ HCX.out Tryz.underlying24 rfl nd_info ?_)
      refine HCL.out.mono ?_; rintro e w4 ⟨v4, L4, rfl, ho4, hm4, hok4, hk4⟩
      have RN4 := Lib.hid (hk4.keep _ _ _ _ (.inl rfl) id RN.out)
      have HO4 := Lib.hid ho4; have HOK4 := Lib.hid hok4; have HK4 := Lib.hid (HKj.out.trans hk4)
      have HL4 := Lib.hid (show L4.length ≤ 2001 by have := flatF_len.1 x (L3.map PlV.pl) (k + 1) (N : Nat) (by rw [List.length_map]; exact HL3.out); rw [← hm4, List.length_map] at this; exact this)
      have hE4 := HE2.out
      rw [← hm4] at hE4
      have HE4 := Lib.hid hE4
      clear ho4 hok4 hk4 hm4 hE4 HE2 HCL cN RN HCX
      go_wp2_with fail
      go_roundw
      case rel => exact ⟨j + 1, v4, L4, Hlt.out, by go_num, rfl, HO4.out, HE4.out, HOK4.out, HL4.out, HK4.out, RN4.out⟩
      case measure => have := Hlt.out; simp [intOf]; omega
    · obtain rfl : j = len := by omega
      have hE2 := HFj.out
      rw [List.drop_of_length_le (Nat.le_of_eq HL.out)] at hE2
      simp only [flatFL] at hE2
      have HE2 := Lib.hid hE2
      clear hE2 HFj
      have cN := rowc RN.out
      go_wp2_with fail
      go_ret
      exact ⟨v3, L3, rfl, HO.out, HE2.out, HOKj.out, HKj.out⟩
/-- v is a list of places -/
def IsPls (P : Nat → Prop) (w : World) (v : Value) (L : List PlV) : Prop := (∃ B, w.ownsRow B 79 7 v L.length (L.flatMap plCells)) ∧ PlsOk P w L
set_option maxRecDepth 100000 in
set_option maxHeartbeats 4000000 in
theorem flatB_any (B : Nat) (n : Nd) (u : Value) (w : World) (hB : B ≤ w.heap.size) (hN : IsNds (· < B) w u n.sub) (hO : ∀ x ∈ nodes n, x.Ok1) :
    Calls Tryz.prog 34 #[.agg (ndA n u)] w fun e w' => FlatRet B w (flatF [] n 1 (-1)) e w' := by
  have hw : Below w.heap.size w (w.alloc (.cells (ndA n u) 24)) := (Below.refl _ _).alloc (Nat.le_refl _) _
  have hc := flat_any B n u (.slice none 0 0) [] 1 (-1) _ (Nat.le_trans hB hw.size) (hN.under (hw.mono hB)) hO (World.ownsRow_nil _ _ _ _) (fun p hp => by simp at hp) (by simp) (by omega) (by omega) (by omega) (by omega)
  have HC := Lib.hid hc
  have HK := Lib.hid (Kp.of_below (M := fun _ => False) hw hB)
  obtain ⟨ad, cp, rfl⟩ := hN.form
  clear hc hw hN hO
  unfold ndA at *
  go_enter Tryz.func34, Tryz.ntmps34
  go_wp2_with fail
  refine HC.out.mono ?_; rintro e w4 ⟨v4, L4, rfl, ho4, hm4, hok4, hk4⟩
  have H := Lib.hid (show FlatRet B w (flatF [] n 1 (-1)) (.returned v4) w4 from ⟨v4, L4, rfl, ho4, hm4, hok4, HK.out.trans hk4⟩)
  clear ho4 hm4 hok4 hk4 HC
  go_wp2_with fail
  go_ret
  exact H.out
theorem flat1_any (n : Nd) (u : Value) (w : World) (hN : IsNds (· < w.heap.size) w u n.sub) (hO : ∀ x ∈ nodes n, x.Ok1) :
    Calls Tryz.prog 34 #[.agg (ndA n u)] w fun e w' => FlatRet w.heap.size w (flatF [] n 1 (-1)) e w' := flatB_any w.heap.size n u w (Nat.le_refl _) hN hO
end Go.Proofs.YthfljcpfcnddhaaGreatDoor
