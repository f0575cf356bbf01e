/- The walks of schema.Valid's closures: names. -/
import Derived.Test.YthfljcpfcnddhaaGreatDoorTw1
import Derived.Test.YthfljcpfcnddhaaGreatDoorShelf
import Derived.Shelf.Strings.SlTrimAscii
namespace Go.Proofs.YthfljcpfcnddhaaGreatDoor
set_option linter.unusedVariables false
set_option linter.unusedSimpArgs false
open Go Go.RowKit Go.ChangeShapes

def abc : ByteArray := ⟨#[97, 98, 99, 100, 101, 102, 103, 104, 105, 106, 107, 108, 109, 110, 111, 112, 113, 114, 115, 116, 117, 118, 119, 120, 121, 122]⟩
set_option maxRecDepth 100000 in
theorem abc_has (c : UInt8) : abc.data.toList.contains c = decide (97 ≤ c.toNat ∧ c.toNat ≤ 122) := by
  have h : ∀ n : Fin 256, (abc.data.toList.contains (UInt8.ofNat n.val)) = decide (97 ≤ n.val ∧ n.val ≤ 122) := by decide
  have := h ⟨c.toNat, c.toNat_lt⟩
  rwa [UInt8.ofNat_toNat] at this
theorem dw_nil {α : Type} (p : α → Bool) : ∀ l : List α, l.dropWhile p = [] ↔ ∀ x ∈ l, p x = true
  | [] => by simp
  | a :: r => by
    rw [List.dropWhile_cons]
    by_cases h : p a = true
    · rw [if_pos h, dw_nil p r]; simp [h]
    · rw [if_neg h]; simp [h]
theorem dw_head {α : Type} (p : α → Bool) : ∀ (l : List α) (a : α) (r : List α), l.dropWhile p = a :: r → p a = false
  | [], a, r, h => by simp at h
  | b :: l, a, r, h => by
    rw [List.dropWhile_cons] at h
    by_cases hb : p b = true
    · rw [if_pos hb] at h; exact dw_head p l a r h
    · rw [if_neg hb] at h; injection h with h1 h2; subst h1; simpa using hb
theorem dw_sub {α : Type} (p : α → Bool) (l : List α) : ∀ x ∈ l.dropWhile p, x ∈ l := fun x hx => (List.dropWhile_sublist p).subset hx
theorem trim_nil (l cs : List UInt8) : Lib.trimS l cs = [] ↔ ∀ c ∈ l, cs.contains c = true := by
  unfold Lib.trimS Lib.trimLeftS Lib.trimRightS
  rw [dw_nil]
  constructor
  · intro h c hc
    cases hd : l.reverse.dropWhile (fun x => cs.contains x) with
    | nil => exact (dw_nil _ _).1 hd c (by simpa using hc)
    | cons a r =>
      have h3 := h a (by rw [hd]; simp)
      have h4 := dw_head _ _ _ _ hd
      rw [h3] at h4; cases h4
  · intro h c hc
    rw [List.mem_reverse] at hc
    exact h c (by simpa using dw_sub _ _ c hc)
theorem trim_abc (s : ByteArray) : (Lib.trimS s.data.toList abc.data.toList).isEmpty = s.data.toList.all fun c => decide (97 ≤ c.toNat ∧ c.toNat ≤ 122) := by
  rw [Bool.eq_iff_iff, List.isEmpty_iff, trim_nil, List.all_eq_true]
  simp only [abc_has]

set_option maxRecDepth 100000 in
set_option maxHeartbeats 4000000 in
theorem isName_any (s : ByteArray) (w : World) (hs : s.size ≤ 9223372036854775807) :
    Calls Tryz.prog 70 #[.string s] w fun e w' => e = .returned (.bool (isNm s)) ∧ Below w.heap.size w w' := by
  have hcon := Any.strings_Trim_laid Tryz.lays160 (by kernel_rfl) s abc w hs (by decide) (ascii_of_all (by decide))
  change Calls Tryz.prog 104 _ _ (fun e w' => e = .returned (.string ⟨(Lib.trimS s.data.toList abc.data.toList).toArray⟩) ∧ Below w.heap.size w w') at hcon
  have hR := trim_abc s
  generalize Lib.trimS s.data.toList abc.data.toList = r at hcon hR
  unfold abc at hcon
  have HC := Lib.hid hcon; have HR := Lib.hid hR
  clear hcon hR
  go_enter Tryz.func70, Tryz.ntmps70
  go_wp2_with (go_at_call 104; refine HC.out.mono ?_; rintro e w' ⟨rfl, hB⟩)
  · go_ret
    rename_i h
    exact ⟨ret_of (by unfold isNm; rw [← ByteArray.toList_eq, h]; rfl), Below.refl _ _⟩
  · go_ret
    rename_i h1 h2
    refine ⟨ret_of ?_, hB⟩
    show Value.bool (!s.toList.isEmpty && r.isEmpty) = _
    rw [HR.out, ByteArray.toList_eq]
    unfold isNm
    rw [decide_eq_true (show s.size ≤ 12 by omega), Bool.and_true]
  · go_ret
    rename_i h1 h2
    refine ⟨ret_of ?_, Below.refl _ _⟩
    show Value.bool false = _
    unfold isNm
    rw [decide_eq_false (show ¬ s.size ≤ 12 by omega), Bool.and_false, Bool.false_and]

/-- a string's cell -/
def strN (s : ByteArray) : Value := .string s
theorem info_strN : (Tryz.prog.info? 9).map (fun i => (i.zero, i.size, i.bytes)) = some (some (.string ByteArray.empty), 1, 16) := by kernel_rfl
theorem contains_any (l : List ByteArray) (x : ByteArray) : Lib.containsS l x = l.any fun y => decide (y = x) := by
  rw [Bool.eq_iff_iff, Lib.containsS_iff, List.any_eq_true]
  simp only [decide_eq_true_eq]
  exact ⟨fun h => ⟨x, h, rfl⟩, fun ⟨y, h, e⟩ => e ▸ h⟩
/-- slices.Contains of a row of texts of the call's own -/
theorem has_own {w : World} {B : Nat} {v : Value} {l : List ByteArray} (hown : w.ownsRow B 9 1 v l.length (l.map strN)) (hm : l.length ≤ 2199023255552) (x : ByteArray) :
    Calls Tryz.prog 71 #[v, .string x] w fun e w' => e = .returned (.bool (l.any fun y => decide (y = x))) ∧ w' = w := by
  rcases hown.2 with ⟨rfl, h0⟩ | ⟨g, cap, cur, rfl, _⟩
  · have : l = [] := List.eq_nil_of_length_eq_zero h0
    subst this
    exact Tryz.slices_Contains_string_empty none 0 x w
  · have h := Tryz.slices_Contains_string g 0 l.length cap l x w (Nat.le_refl _) (by omega) fun j hj => by
      rw [Nat.zero_add, hown.cellAt j (by omega), List.getElem?_map, List.getElem?_eq_getElem hj, List.getD_eq_getElem?_getD, List.getElem?_eq_getElem hj]; rfl
    rw [List.take_of_length_le (Nat.le_refl _), contains_any] at h
    exact h
/-- what the walk through names sees -/
def namesF (n : Nd) (_ : Int) (s : Unit) : Bool × Unit := (namesR [] n.sub, s)

set_option maxRecDepth 100000 in
set_option maxHeartbeats 8000000 in
theorem valid4_any (B : Nat) (P : Nat → Prop) (hP : ∀ b, P b → b < B) : SeeAt B P (fun _ => False) (fun _ _ _ => True) namesF 69 #[] := by
  intro m n u k s w hB _ hN hO
  have hlen := (hO n (by rw [nodes_eq]; exact List.mem_cons_self ..)).sub
  have hOs : ∀ x ∈ n.sub, x.name.size ≤ 9223372036854775807 := fun x hx => (hO x (by rw [nodes_eq]; exact List.mem_cons_of_mem _ (nodesL_mem hx (by rw [nodes_eq]; exact List.mem_cons_self ..)))).name
  obtain ⟨R, hR⟩ : ∃ R, namesR [] n.sub = R := ⟨_, rfl⟩
  have hp : (namesF n k s).1 = R := hR
  rw [hp]
  clear hp hO
  obtain ⟨l, hl⟩ : ∃ l, n.sub = l := ⟨_, rfl⟩
  obtain ⟨ad, cp, hv⟩ := hN.form
  rw [hl] at hN hR hlen hv hOs
  obtain ⟨len, hnl⟩ : ∃ len, l.length = len := ⟨_, rfl⟩
  rw [hnl] at hlen hv
  subst hv
  have HL := Lib.hid hnl; have HRr := Lib.hid hR; have HN := Lib.hid hN; have HOs := Lib.hid hOs
  clear hnl hl hR hN hOs
  obtain ⟨i0, hi, hz0, hz1, hz2⟩ := info_parts info_strN
  unfold ndA
  go_enter Tryz.func69, Tryz.ntmps69
  go_upto_region 1 with fail
  have hw : Below w.heap.size w (w.alloc (.cells #[.int .i64 n.id, .string n.name, .int .i64 n.rep, .int .i64 n.kind, .slice ad len cp] 24)) := (Below.refl _ _).alloc (Nat.le_refl _) _
  have hrw := heap_alloc_new w (.cells #[.int .i64 n.id, .string n.name, .int .i64 n.rep, .int .i64 n.kind, .slice ad len cp] 24)
  generalize (w.alloc (.cells #[.int .i64 n.id, .string n.name, .int .i64 n.rep, .int .i64 n.kind, .slice ad len cp] 24)) = w1 at *
  have HW := Lib.hid hw; have RN := Lib.hid hrw
  have cN := rowc hrw
  clear hw hrw
  go_wp2_with fail
  clear cN
  go_loopw [5, 11] (fun s5 i wr => ∃ (j : Nat) (sl : List ByteArray) (v5 : Value), j ≤ len ∧ i = .int .i64 (j : Nat) ∧ v5 = s5 ∧ sl.length = j ∧ wr.ownsRow (w.heap.size + 1) 9 1 v5 sl.length (sl.map strN) ∧ Hid (namesR sl (l.drop j) = R) ∧ Below w.heap.size w wr ∧ wr.heap[w.heap.size]? = some (.cells #[.int .i64 n.id, .string n.name, .int .i64 n.rep, .int .i64 n.kind, .slice ad len cp] 24 (0, 0))) (fun _ i _ => len - (intOf i).toNat)
  case atStart => exact ⟨0, [], _, Nat.zero_le _, rfl, rfl, rfl, World.ownsRow_nil _ _ _ _, HRr.out, HW.out, RN.out⟩
  case round =>
    obtain ⟨j, sl, v5, hj, rfl, rfl, hsl, ho, HE, hb, rN⟩ := hrel
    clear HW RN HRr
    have HW := Lib.hid hb; have RN := Lib.hid rN; have HO := Lib.hid ho; have HSL := Lib.hid hsl
    have hslm : sl.length ≤ 2199023255552 := by omega
    clear hb rN ho hsl
    by_cases hlt : j < len
    · have hjl : j < l.length := by rw [HL.out]; exact hlt
      obtain ⟨b0, off, rfl, hPb, hb0, hat⟩ := (HN.out.belowP hP (HW.out.mono hB)).at (by omega)
      obtain ⟨ux, hcx, hnx⟩ := hat j l[j] (List.getElem?_eq_getElem hjl)
      have hdr : l.drop j = l[j] :: l.drop (j + 1) := List.drop_eq_getElem_cons hjl
      have hxs := HOs.out l[j] (List.getElem_mem hjl)
      have hin : (j : Int) < (len : Int) := by omega
      have Hlt := Lib.hid hlt
      have hE2 := HE.out
      rw [hdr] at hE2
      generalize l[j] = x at *
      obtain ⟨ax, cx, rfl⟩ := hnx.form
      unfold NdAt ndA at hcx
      have HCX := Lib.hid hcx
      simp only [namesR] at hE2
      have HE2 := Lib.hid hE2
      clear hat hjl hdr hnx hcx hPb hE2 HE
      have cN := rowc RN.out
      go_upto_region 5 with (refine wpList_load_cells rfl 24 _ rfl b0 (off + j * 5) rfl #[.int .i64 x.id, .string x.name, .int .i64 x.rep, .int .i64 x.kind, .slice ax x.sub.length cx] _ HCX.out Tryz.underlying24 rfl nd_info ?_)
      have hw2 : Below wr.heap.size wr (wr.alloc (.cells #[.int .i64 x.id, .string x.name, .int .i64 x.rep, .int .i64 x.kind, .slice ax x.sub.length cx] 24)) := (Below.refl _ _).alloc (Nat.le_refl _) _
      have hrx := heap_alloc_new wr (.cells #[.int .i64 x.id, .string x.name, .int .i64 x.rep, .int .i64 x.kind, .slice ax x.sub.length cx] 24)
      replace HO := Lib.hid (HO.out.alloc (.cells #[.int .i64 x.id, .string x.name, .int .i64 x.rep, .int .i64 x.kind, .slice ax x.sub.length cx] 24)); replace RN := Lib.hid (row_keep hw2 RN.out); replace HW := Lib.hid (HW.out.trans (hw2.mono HW.out.size)); have RX := Lib.hid hrx
      have hgx : wr.heap.size < (wr.alloc (.cells #[.int .i64 x.id, .string x.name, .int .i64 x.rep, .int .i64 x.kind, .slice ax x.sub.length cx] 24)).heap.size := row_lt hrx
      generalize (wr.alloc (.cells #[.int .i64 x.id, .string x.name, .int .i64 x.rep, .int .i64 x.kind, .slice ax x.sub.length cx] 24)) = w2 at *
      generalize wr.heap.size = gx at *
      clear hw2 hrx cN
      have cX := rowc RX.out
      cases hnm : isNm x.name with
      | false =>
        have HIS := Lib.hid (fun w9 => hnm ▸ isName_any x.name w9 hxs)
        have hR0 := HE2.out
        rw [hnm] at hR0
        obtain rfl : false = R := by simpa using hR0
        clear hnm hR0 HE2
        go_wp2_with fail
        refine (HIS.out _).mono ?_; rintro e w3 ⟨rfl, hb3⟩
        replace HW := Lib.hid (HW.out.trans (hb3.mono HW.out.size))
        clear hb3 cX
        go_wp2_with fail
        go_ret
        exact ⟨rfl, trivial, .of_below HW.out hB⟩
      | true =>
        have HIS := Lib.hid (fun w9 => hnm ▸ isName_any x.name w9 hxs)
        have HE3 := HE2.out
        rw [hnm] at HE3
        clear hnm HE2
        cases hh : (sl.any fun y => decide (y = x.name)) with
        | true =>
          rw [hh] at HE3
          obtain rfl : false = R := by simpa using HE3
          have HHA := Lib.hid (fun w9 (ho : World.ownsRow w9 (w.heap.size + 1) 9 1 v5 sl.length (sl.map strN)) => hh ▸ has_own ho hslm x.name)
          clear HE3 hh
          go_wp2_with fail
          refine (HIS.out _).mono ?_; rintro e w3 ⟨rfl, hb3⟩
          replace RX := Lib.hid (row_keep hb3 RX.out); replace RN := Lib.hid (row_keep hb3 RN.out); replace HO := Lib.hid (own_blw HO.out hb3); replace HW := Lib.hid (HW.out.trans (hb3.mono HW.out.size))
          clear hb3 cX
          have cX := rowc RX.out
          go_wp2_with fail
          refine (HHA.out _ HO.out).mono ?_; rintro e w9 ⟨rfl, hw9⟩
          subst hw9
          go_wp2_with fail
          go_ret
          exact ⟨rfl, trivial, .of_below HW.out hB⟩
        | false =>
          rw [hh] at HE3
          have HE4 := Lib.hid (show namesR (sl ++ [x.name]) (l.drop (j + 1)) = R by simpa using HE3)
          have HHA := Lib.hid (fun w9 (ho : World.ownsRow w9 (w.heap.size + 1) 9 1 v5 sl.length (sl.map strN)) => hh ▸ has_own ho hslm x.name)
          clear HE3 hh
          go_wp2_with fail
          refine (HIS.out _).mono ?_; rintro e w3 ⟨rfl, hb3⟩
          replace RX := Lib.hid (row_keep hb3 RX.out); replace RN := Lib.hid (row_keep hb3 RN.out); replace HO := Lib.hid (own_blw HO.out hb3); replace HW := Lib.hid (HW.out.trans (hb3.mono HW.out.size))
          clear hb3 cX
          have cX := rowc RX.out
          go_wp2_with fail
          refine (HHA.out _ HO.out).mono ?_; rintro e w9 ⟨rfl, hw9⟩
          subst hw9
          have hbs : w.heap.size + 1 ≤ w9.heap.size := row_lt RN.out
          have h63 : sl.length + 1 ≤ maxLen := by unfold maxLen; omega
          have h64 : (sl.length + 1) * 16 ≤ 140737488355328 := by have := HSL.out; omega
          go_wp2_with (at_builtin; refine wpList_push rfl _ _ 111 rfl (w.heap.size + 1) 9 i0 (.string ByteArray.empty) 16 Tryz.underlying111 hi hz0 hz1 hz2 rfl strN (fun _ => rfl) _ _ rfl HO.out _ _ rfl h63 h64 hbs x.name rfl ?_; intro v' w1 hown' hb' hnn; have HO' := Lib.hid hown'; have HB' := Lib.hid hb'; clear hown' hb')
          go_roundw
          case rel => exact ⟨j + 1, sl ++ [x.name], _, Hlt.out, by go_num, rfl, by rw [List.length_append, HSL.out]; rfl, HO'.out, HE4.out, HW.out.trans (HB'.out.mono (Nat.le_succ _)), (HB'.out.block _ (Nat.lt_succ_self _)).trans RN.out⟩
          case measure => have := Hlt.out; simp [intOf]; omega
    · obtain rfl : j = len := by omega
      have hE2 := HE.out
      rw [List.drop_of_length_le (Nat.le_of_eq HL.out)] at hE2
      obtain rfl : true = R := hE2
      have cN := rowc RN.out
      go_wp2_with fail
      go_ret
      exact ⟨rfl, trivial, .of_below HW.out hB⟩
end Go.Proofs.YthfljcpfcnddhaaGreatDoor
