/- Merged texts: K, IntM, LoadC, Cells, Wire1, Wire4, Wire9, Bits1, Bits2, Bits3, Enc1, Runs1, Runs2, Canon. -/
import Derived.WalkKit
import Derived.WalkSpells
import Derived.WalkLawsBesides
import Derived.Lib.Hide
import Derived.Handy
import Derived.Laws.Rows
import Derived.Deep.WholeRow

/- General lemmas for walks, over any program: bytes in memory that the call owns, appended to one by one, read as a string. -/
namespace Go.Proofs.YthfljcpfcnddhaaGreatDoor
open Go Go.RowKit

/-- a byte as a cell -/
def byteV (b : UInt8) : Value := .int .u8 (b.toNat : Int)
theorem byteV_one (b : UInt8) : (byteV b).oneCell' = true := rfl

theorem ret_of {v v' : Value} (h : v = v') : Ending.returned v = .returned v' := by rw [h]
theorem str_of {l l' : List UInt8} (h : l = l') : Value.string ⟨l.toArray⟩ = .string ⟨l'.toArray⟩ := by rw [h]

theorem one_map {α : Type} {f : α → Value} (hf : ∀ x, (f x).oneCell' = true) (l : List α) : ∀ u ∈ l.map f, u.oneCell' = true := by
  intro u hu
  obtain ⟨x, _, rfl⟩ := List.mem_map.1 hu
  exact hf x

/-- append of one one-cell element, the element having just been laid in a block of its own -/
theorem wpList_push {P : Program} {wr : World} {ops : Array Oper} {rest : List Oper} {o : Oper} {a : Act} {Q : Exit → Act → World → Prop} (hg : o.guard = none) (s x : Operand) (t : TypeId)
    (ho : o.op = .call { callee := .builtin .append, args := #[s, x], argTypes := #[t, t] })
    (base : Nat) (e : TypeId) (i : TypeInfo) (z : Value) (bytes : Nat) (ht : P.underlying t = some (.slice e)) (hi : P.info? e = some i) (hz : i.zero = some z)
    (hsize : i.size = 1) (hby : i.bytes = bytes) (hzs : z.cells.size = 1)
    {α : Type} (f : α → Value) (hf : ∀ y, (f y).oneCell' = true)
    (v : Value) (l : List α) (hs : a.eval s = v) (hown : wr.ownsRow base e 1 v l.length (l.map f)) (e' : TypeId) (u : Value) (hx : a.eval x = .slice (some ⟨wr.heap.size, 0, none⟩) 1 1)
    (h63 : l.length + 1 ≤ maxLen) (hbytes : (l.length + 1) * bytes ≤ 140737488355328) (hbase : base ≤ wr.heap.size) (y : α) (hu : u = f y)
    (h : ∀ v' w', w'.ownsRow base e 1 v' (l ++ [y]).length ((l ++ [y]).map f) → Below base wr w' → v' ≠ .slice none 0 0 → wpList P ops Q rest (a.put o.dst v') w') :
    wpList P ops Q (o :: rest) a (wr.alloc (.cells #[u] e')) := by
  subst hu
  refine wpList_append_own _ hg s x t ho base e i z 1 bytes ht hi hz hsize hby hzs (by omega) v l.length (l.map f) hs (hown.alloc _) ⟨wr.heap.size, 0, none⟩ 1 1 [f y] hx (by simp) ?_ ?_ h63 hbytes (by simp; omega) ?_
  · intro j u hj
    cases j with
    | zero => simp at hj; subst hj; simp [go_sem]
    | succ j => simp at hj
  · intro u hu; simp at hu; subst hu; exact hf y
  · intro v' w' h1 h2 h3
    refine h v' w' (by simpa using h1) ?_ (by rw [Ne, h3]; simp)
    refine (((Below.refl _ _).alloc hbase _).grown h2 (by simp; omega) ?_)
    intro k hk
    exact (hown.lt k hk).1

/-- string(b), b of the call's own -/
theorem run_own_string {P : Program} {w : World} {src dst e : TypeId} {base : Nat} {v : Value} {l : List UInt8}
    (hs : P.underlying src = some (.slice e)) (he : P.underlying e = some (.int .u8)) (hd : P.underlying dst = some .string)
    (hown : w.ownsRow base e 1 v l.length (l.map byteV)) : (convert src dst v).run P w = .ok (.string ⟨l.toArray⟩) w := by
  rcases hown.2 with ⟨rfl, hn⟩ | ⟨g, cap, cur, rfl, hr⟩
  · have : l = [] := List.eq_nil_of_length_eq_zero hn
    subst this
    rw [run_convert_bytes_string w src dst e none _ _ hs he hd]
    simp [Conv.bytesToString]
    rfl
  · refine run_convert_bytes_back w src dst e _ cap l hs he hd fun j hj => ?_
    have h2 := hown.cellAt j (by omega)
    rw [Addr.add_lit, Nat.zero_add, h2]
    simp [hj, byteV]

/-- string([]byte{b}) -/
theorem run_lit_string {P : Program} {src dst e : TypeId} (w : World) (n : Int) (hs : P.underlying src = some (.slice e)) (he : P.underlying e = some (.int .u8)) (hd : P.underlying dst = some .string)
    (h0 : 0 ≤ n) (h1 : n < 256) :
    (convert src dst (.slice (some ⟨w.heap.size, 0, none⟩) 1 1)).run P (w.alloc (.cells #[.int .u8 n] e)) = .ok (.string ⟨#[UInt8.ofNat n.toNat]⟩) (w.alloc (.cells #[.int .u8 n] e)) := by
  have hb : (.int .u8 n : Value) = byteV (UInt8.ofNat n.toNat) := by
    unfold byteV
    rw [UInt8.toNat_ofNat', Nat.mod_eq_of_lt (by omega), Int.toNat_of_nonneg h0]
  rw [hb]
  exact run_own_string (base := 0) (l := [UInt8.ofNat n.toNat]) hs he hd (World.ownsRow_lit w #[byteV (UInt8.ofNat n.toNat)] 1 (Nat.zero_le _) (by decide) rfl)

theorem ba_extract (s : ByteArray) (a b : Nat) : s.extract a b = ⟨((s.data.toList.drop a).take (b - a)).toArray⟩ := by
  have h := ByteArray.extract_mk s.data.toList a b
  rwa [show (ByteArray.mk s.data.toList.toArray) = s by simp] at h
theorem ba_mk (s : ByteArray) : (ByteArray.mk s.data.toList.toArray) = s := by simp
theorem ba_append (s t : ByteArray) : s ++ t = ⟨(s.data.toList ++ t.data.toList).toArray⟩ := by
  rw [← ByteArray.mk_append_mk, ba_mk, ba_mk]

theorem below_of_eq {w w' : World} (h : w' = w) : Below w.heap.size w w' := h ▸ Below.refl _ _

/-- what was there when the call began is there behind it -/
theorem bcell {W w1 : World} {B : Nat} (hb : Below B W w1) : (∀ b o, b < B → w1.cell? ⟨b, o, none⟩ = W.cell? ⟨b, o, none⟩) ∧ (∀ b o, b < B → w1.frozen? ⟨b, o, none⟩ = W.frozen? ⟨b, o, none⟩) :=
  ⟨fun b o h => hb.cell (p := ⟨b, o, none⟩) h, fun b o h => hb.frozen (p := ⟨b, o, none⟩) h⟩
theorem below_trans {w w1 w2 : World} (h : Below w.heap.size w w1) (k : Below w1.heap.size w1 w2) : Below w.heap.size w w2 := h.trans (k.mono h.size)
end Go.Proofs.YthfljcpfcnddhaaGreatDoor

/- Slices of numbers in memory. -/
namespace Go.Proofs.YthfljcpfcnddhaaGreatDoor
open Go Go.RowKit Go.ChangeShapes

/-- v is a slice of these numbers -/
def IsNums (K : IntKind) (w : World) (v : Value) (l : List Int) : Prop :=
  (l = [] ∧ ∃ ad cap, v = .slice ad 0 cap) ∨ (∃ b off cap, v = .slice (some ⟨b, off, none⟩) l.length cap ∧ b < w.heap.size ∧ ∀ j x, l[j]? = some x → w.cell? ⟨b, off + j, none⟩ = some (.int K x))
/-- .. of Go's ints -/
abbrev IsInts := IsNums .i64
/-- such numbers as an int holds -/
def Fits (l : List Int) : Prop := l.length ≤ maxLen ∧ ∀ x ∈ l, -9223372036854775808 ≤ x ∧ x < 9223372036854775808
theorem IsNums.below {K : IntKind} {w w' : World} {v : Value} {l : List Int} {B : Nat} (h : IsNums K w v l) (hb : Below B w w') (hB : w.heap.size ≤ B) : IsNums K w' v l := by
  rcases h with h | ⟨b, off, cap, rfl, hlt, hc⟩
  · exact .inl h
  · exact .inr ⟨b, off, cap, rfl, by have := hb.size; omega, fun j x hj => (hb.cell (p := ⟨b, off + j, none⟩) (by show b < B; omega)).trans (hc j x hj)⟩
theorem IsNums.form {K : IntKind} {w : World} {v : Value} {l : List Int} (h : IsNums K w v l) : ∃ ad cap, v = .slice ad l.length cap := by
  rcases h with ⟨rfl, h⟩ | ⟨b, off, cap, rfl, _⟩
  · exact h
  · exact ⟨_, _, rfl⟩
theorem IsNums.at {K : IntKind} {w : World} {ad : Option Addr} {n cap : Nat} {l : List Int} (h : IsNums K w (.slice ad n cap) l) (hl : 0 < l.length) :
    ∃ b off, ad = some ⟨b, off, none⟩ ∧ n = l.length ∧ b < w.heap.size ∧ ∀ j x, l[j]? = some x → w.cell? ⟨b, off + j, none⟩ = some (.int K x) := by
  rcases h with ⟨rfl, _⟩ | ⟨b, off, cap', he, hlt, hc⟩
  · simp at hl
  · injection he with e1 e2 e3
    exact ⟨b, off, e1, e2, hlt, hc⟩
/-- a row of the call's own is one -/
theorem IsNums.of_own {K : IntKind} {w : World} {B : Nat} {e : TypeId} {v : Value} {l : List Int} (h : w.ownsRow B e 1 v l.length (l.map fun x => .int K x)) : IsNums K w v l := by
  rcases h.2 with ⟨rfl, h0⟩ | ⟨g, cap, cur, rfl, _, hg, _, _, _, _⟩
  · exact .inl ⟨List.eq_nil_of_length_eq_zero h0, none, 0, rfl⟩
  · refine .inr ⟨g, 0, cap, rfl, (Array.getElem?_eq_some_iff.1 hg).1, fun j x hj => ?_⟩
    have hlt : j < l.length := (List.getElem?_eq_some_iff.1 hj).1
    have := h.cellAt j (by omega)
    rw [Nat.zero_add, this]
    simp [hj]

end Go.Proofs.YthfljcpfcnddhaaGreatDoor

/- Structs loaded out of a block, stored into a new one; over any program. -/
namespace Go.Proofs.YthfljcpfcnddhaaGreatDoor
set_option linter.unusedVariables false
open Go Go.RowKit Go.ChangeShapes

/-- a struct loaded from a place in a block -/
theorem run_loadVar_cells {P : Program} (w : World) (b f : Nat) (ty : TypeId) (cs : Array Value) (d : TypeDesc) (hc : ∀ j v, cs[j]? = some v → w.cell? ⟨b, f + j, none⟩ = some v)
    (hu : P.underlying ty = some d) (hd : (match d with | .struct _ | .array _ _ => true | _ => false) = true) (hi : (P.info? ty).map (·.size) = some cs.size) :
    (loadVar ty ⟨b, f, none⟩).run P w = .ok (.agg cs) w := by
  have hl : (loadCells ⟨b, f, none⟩ cs.toList.length).run P w = .ok cs.toList.toArray w :=
    run_loadCells_list (P := P) w ⟨b, f, none⟩ cs.toList (fun j v hv => by
      rw [Go.WideShapes.add_plain]
      exact hc j v (by simpa using hv))
  cases hq : P.info? ty with
  | none => simp [hq] at hi
  | some i =>
    have hs : i.size = cs.size := by simpa [hq] using hi
    have hagg : (isAgg ty).run P w = .ok true w := by
      unfold isAgg
      rw [Sem.run_bind, run_underlying hu w]
      cases d <;> simp_all
    simp only [Array.length_toList, Array.toArray_toList] at hl
    simp [loadVar, Sem.run_bind, hagg, sizeOf, typeInfo, hq, hs, hl]
theorem wpList_load_cells {P : Program} {w : World} {ops : Array Oper} {rest : List Oper} {o : Oper} {a : Act} {Q : Exit → Act → World → Prop} (hgd : o.guard = none) (ty : TypeId) (x : Operand) (ho : o.op = .load ty x)
    (b f : Nat) (hx : a.eval x = .pointer (some ⟨b, f, none⟩)) (cs : Array Value) (d : TypeDesc) (hc : ∀ j v, cs[j]? = some v → w.cell? ⟨b, f + j, none⟩ = some v)
    (hu : P.underlying ty = some d) (hd : (match d with | .struct _ | .array _ _ => true | _ => false) = true) (hi : (P.info? ty).map (·.size) = some cs.size)
    (h : wpList P ops Q rest (a.put o.dst (.agg cs)) w) : wpList P ops Q (o :: rest) a w := by
  refine wpList_plain hgd fun K hK => ?_
  unfold Oper.wp execOp
  simp only [ho, hx, Instr.loadAt, Instr.sureAddr, Sem.run_bind, Sem.run_pure, Result.andThen_ok, run_loadVar_cells w b f ty cs d hc hu hd hi]
  exact hK _ _ h
/-- a whole row stored into the block that was made last -/
theorem wpList_store_new {P : Program} {w : World} {ops : Array Oper} {rest : List Oper} {o : Oper} {a : Act} {Q : Exit → Act → World → Prop} (hgd : o.guard = none) (hd : o.dst = none) (ty : TypeId) (x v : Operand) (ho : o.op = .store ty x v)
    (hx : a.eval x = .pointer (some ⟨w.heap.size, 0, none⟩)) (old cells : Array Value) (hv : a.eval v = .agg cells)
    (hi : (P.info? ty).map (·.size) = some cells.size) (hs : old.size = cells.size) (h1 : cells.all (·.oneCell') = true)
    (h : wpList P ops Q rest a (w.alloc (.cells cells ty))) : wpList P ops Q (o :: rest) a (w.alloc (.cells old ty)) := by
  refine wpList_plain hgd fun K hK => ?_
  have hr := run_storeVar_new (P := P) w ty old cells hi hs h1
  unfold Oper.wp execOp
  simp [ho, hx, hv, Instr.storeAt, Instr.sureAddr, hr, Result.andThen, Oper.upon_skip, Act.put, hd]
  exact hK _ _ h

theorem run_append_none {P : Program} (w : World) (t ty e k : TypeId) (i : TypeInfo) (ht : P.underlying t = some (.slice e)) (hi : P.info? e = some i) (b : Option Addr) (n c : Nat) (x : Option Addr) (c' : Nat) (hc : n ≤ c) :
    (Builtin.append_ #[t, t] ty #[.slice b n c, .slice x 0 c']).run P w = .ok (.slice b n c) w := by
  cases b <;> cases x <;> simp [Builtin.append_, run_underlying ht, sizeOf, typeInfo, hi, Builtin.lenOf, hc, Builtin.firstCells, loadCells, loadCellsFrom, storeCells]
end Go.Proofs.YthfljcpfcnddhaaGreatDoor

/- Whole rows of cells: laid, loaded, stored. -/
namespace Go.Proofs.YthfljcpfcnddhaaGreatDoor
open Go Go.RowKit

/-- a new variable of whatever type, its zero value known by its table's row -/
theorem wpList_alloc_row {P : Program} {w : World} {ops : Array Oper} {rest : List Oper} {o : Oper} {a : Act} {Q : Exit → Act → World → Prop} (hg : o.guard = none) (ty : TypeId) (ho : o.op = .alloc ty)
    (i : TypeInfo) (z : Value) (zc : Array Value) (hi : P.info? ty = some i) (hz : i.zero = some z) (hzc : z.cells = zc)
    (h : wpList P ops Q rest (a.put o.dst (.pointer (some ⟨w.heap.size, 0, none⟩))) (w.alloc (.cells zc ty))) : wpList P ops Q (o :: rest) a w := by
  subst hzc
  refine wpList_plain hg fun K hK => ?_
  unfold Oper.wp execOp
  simp only [ho, Instr.alloc, zeroValue, typeInfo, newVar, newRow, newObj]
  simp [hi, hz, Result.andThen]
  exact hK _ _ h

/-- a whole row stored -/
theorem wpList_store_row {P : Program} {w : World} {ops : Array Oper} {rest : List Oper} {o : Oper} {a : Act} {Q : Exit → Act → World → Prop} (hgd : o.guard = none) (hd : o.dst = none) (ty : TypeId) (x v : Operand) (ho : o.op = .store ty x v)
    (g : Nat) (hx : a.eval x = .pointer (some ⟨g, 0, none⟩)) (old cells : Array Value) (hv : a.eval v = .agg cells) (t : TypeId) (hg : w.heap[g]? = some (.cells old t (0, 0)))
    (hi : (P.info? ty).map (·.size) = some cells.size) (hs : old.size = cells.size) (h1 : cells.all (·.oneCell') = true)
    (h : wpList P ops Q rest a (w.setRow g cells)) : wpList P ops Q (o :: rest) a w := by
  refine wpList_plain hgd fun K hK => ?_
  have hr := run_storeVar_row (P := P) w g t ty old cells hg hi hs h1
  unfold Oper.wp execOp
  simp [ho, hx, hv, Instr.storeAt, Instr.sureAddr, hr, Result.andThen, Oper.upon_skip, Act.put, hd]
  exact hK _ _ h

theorem below_setRow {B g : Nat} {a w : World} (h : Below B a w) (hg : B ≤ g) (cs : Array Value) : Below B a (w.setRow g cs) :=
  h.trans ⟨rfl, rfl, rfl, by simp, fun k hk => setRow_other w g k cs (by omega)⟩

end Go.Proofs.YthfljcpfcnddhaaGreatDoor

/- Chapter 1 in plain Lean: numbers as bytes. -/
namespace Go.Proofs.YthfljcpfcnddhaaGreatDoor

/-- 7 bits a byte, the lowest first -/
def seven (n : Nat) : List UInt8 := if n < 128 then [UInt8.ofNat n] else UInt8.ofNat (n % 128 + 128) :: seven (n / 128)
termination_by n

theorem seven_lt {n : Nat} (h : n < 128) : seven n = [UInt8.ofNat n] := by rw [seven, if_pos h]
theorem seven_ge {n : Nat} (h : 128 ≤ n) : seven n = UInt8.ofNat (n % 128 + 128) :: seven (n / 128) := by rw [seven, if_neg (by omega)]
theorem seven_pos (n : Nat) : 0 < (seven n).length := by rw [seven]; split <;> simp
theorem seven_len_le (k : Nat) : ∀ n, n < 128 ^ (k + 1) → (seven n).length ≤ k + 1 := by
  induction k with
  | zero => intro n h; rw [seven_lt (by simpa using h)]; simp
  | succ k ih =>
    intro n h
    by_cases hn : n < 128
    · rw [seven_lt hn]; simp
    · rw [seven_ge (by omega)]
      have := ih (n / 128) (by rw [Nat.div_lt_iff_lt_mul (by omega)]; rw [Nat.pow_succ] at h; exact h)
      simp; omega
theorem seven_len {n : Nat} (h : n < 18446744073709551616) : (seven n).length ≤ 10 := seven_len_le 9 n (Nat.lt_of_lt_of_le h (by decide))

theorem ofNat_inj {a b : Nat} (ha : a < 256) (hb : b < 256) (h : UInt8.ofNat a = UInt8.ofNat b) : a = b := by
  have := congrArg UInt8.toNat h
  rwa [UInt8.toNat_ofNat', UInt8.toNat_ofNat', Nat.mod_eq_of_lt ha, Nat.mod_eq_of_lt hb] at this
/-- no number's bytes begin another one's -/
theorem seven_prefix (b : Nat) : ∀ a, (∃ r, seven a ++ r = seven b) → a = b := by
  induction b using Nat.strongRecOn with
  | _ b ih =>
    intro a ⟨r, h⟩
    by_cases ha : a < 128 <;> by_cases hb : b < 128
    · rw [seven_lt ha, seven_lt hb] at h
      simp only [List.cons_append, List.nil_append, List.cons.injEq] at h
      exact ofNat_inj (by omega) (by omega) h.1
    · rw [seven_lt ha, seven_ge (n := b) (by omega)] at h
      simp only [List.cons_append, List.nil_append, List.cons.injEq] at h
      have := ofNat_inj (by omega) (by omega) h.1
      omega
    · rw [seven_ge (n := a) (by omega), seven_lt hb] at h
      simp only [List.cons_append, List.cons.injEq] at h
      have := ofNat_inj (by omega) (by omega) h.1
      omega
    · rw [seven_ge (n := a) (by omega), seven_ge (n := b) (by omega)] at h
      simp only [List.cons_append, List.cons.injEq] at h
      have h1 := ofNat_inj (by omega) (by omega) h.1
      have h2 := ih (b / 128) (by omega) (a / 128) ⟨r, h.2⟩
      omega

/-- a number with a sign as one without -/
def zig (n : Int) : Nat := if n < 0 then ((-n - 1) * 2 + 1).toNat else (n * 2).toNat
theorem zig_lt {n : Int} (h0 : -9223372036854775808 ≤ n) (h1 : n < 9223372036854775808) : zig n < 18446744073709551616 := by unfold zig; split <;> omega
end Go.Proofs.YthfljcpfcnddhaaGreatDoor

/- Chapter 1 in plain Lean: reading numbers and texts. -/
namespace Go.Proofs.YthfljcpfcnddhaaGreatDoor

/-- a number from place i on: the number, how many bytes in all -/
def rdU : Nat → List UInt8 → Nat → Option (Nat × Nat)
  | _, [], _ => none
  | i, c :: r, acc =>
    if 10 ≤ i ∨ (i = 9 ∧ 1 < c.toNat) ∨ (c.toNat = 0 ∧ 0 < i) then none
    else if c.toNat < 128 then some (acc + c.toNat * 128 ^ i, i + 1)
    else rdU (i + 1) r (acc + c.toNat % 128 * 128 ^ i)
def readU (s : List UInt8) : Option (Nat × Nat) := rdU 0 s 0

theorem rdU_lt : ∀ (s : List UInt8) (i acc n k : Nat), acc < 128 ^ i → rdU i s acc = some (n, k) → n < 18446744073709551616 ∧ i < k ∧ k ≤ i + s.length ∧ k ≤ 10
  | [], _, _, _, _, _, h => by simp [rdU] at h
  | c :: r, i, acc, n, k, ha, h => by
    rw [rdU] at h
    split at h
    · cases h
    · rename_i hc
      have hc9 : ¬ 10 ≤ i := fun h => hc (.inl h)
      have hpow : (128 : Nat) ^ i ≤ 9223372036854775808 := Nat.le_trans (Nat.pow_le_pow_right (by decide) (show i ≤ 9 by omega)) (by decide)
      split at h
      · simp only [Option.some.injEq, Prod.mk.injEq] at h
        obtain ⟨rfl, rfl⟩ := h
        refine ⟨?_, by omega, by simp, by omega⟩
        by_cases h9 : i = 9
        · have : c.toNat ≤ 1 := by
            rcases Nat.lt_or_ge 1 c.toNat with h1 | h1
            · exact absurd (.inr (.inl ⟨h9, h1⟩)) hc
            · exact h1
          have h3 : c.toNat * 128 ^ i ≤ 1 * 128 ^ i := Nat.mul_le_mul_right _ this
          omega
        · have h2 : (128 : Nat) ^ i * 128 ≤ 9223372036854775808 := by
            rw [← Nat.pow_succ]; exact Nat.le_trans (Nat.pow_le_pow_right (by decide) (show i + 1 ≤ 9 by omega)) (by decide)
          have h3 : c.toNat * 128 ^ i ≤ 127 * 128 ^ i := Nat.mul_le_mul_right _ (by omega)
          omega
      · have hacc : acc + c.toNat % 128 * 128 ^ i < 128 ^ (i + 1) := by
          have h3 : c.toNat % 128 * 128 ^ i ≤ 127 * 128 ^ i := Nat.mul_le_mul_right _ (by omega)
          rw [Nat.pow_succ]; omega
        have := rdU_lt r (i + 1) _ n k hacc h
        refine ⟨this.1, by omega, ?_, this.2.2.2⟩
        have h4 := this.2.2.1
        simp; omega
theorem readU_lt {s : List UInt8} {n k : Nat} (h : readU s = some (n, k)) : n < 18446744073709551616 ∧ 0 < k ∧ k ≤ s.length ∧ k ≤ 10 := by
  have := rdU_lt s 0 0 n k (by decide) h
  omega

/-- what is written is read, with whatever behind it -/
theorem rdU_seven (r : List UInt8) (m : Nat) : ∀ (i acc : Nat), (m = 0 → i = 0) → m * 128 ^ i < 18446744073709551616 → i ≤ 9 → rdU i (seven m ++ r) acc = some (acc + m * 128 ^ i, i + (seven m).length) := by
  induction m using Nat.strongRecOn with
  | _ m ih =>
    intro i acc h0 hm hi
    by_cases hlt : m < 128
    · rw [seven_lt hlt, List.cons_append, rdU, UInt8.toNat_ofNat', Nat.mod_eq_of_lt (show m < 2 ^ 8 by omega), if_neg, if_pos hlt]
      · simp
      · rintro (h | ⟨rfl, h⟩ | ⟨h, h'⟩)
        · omega
        · have h2 : 2 * 128 ^ 9 ≤ m * 128 ^ 9 := Nat.mul_le_mul_right _ h
          omega
        · omega
    · rw [seven_ge (n := m) (by omega), List.cons_append, rdU, UInt8.toNat_ofNat', Nat.mod_eq_of_lt (show m % 128 + 128 < 2 ^ 8 by omega), if_neg, if_neg (by omega)]
      · have e : m * 128 ^ i = m % 128 * 128 ^ i + m / 128 * 128 ^ (i + 1) := by
          rw [Nat.pow_succ, Nat.mul_comm (128 ^ i) 128, ← Nat.mul_assoc, ← Nat.add_mul]
          congr 1; omega
        have h8 : i ≤ 8 := by
          rcases Nat.lt_or_ge i 9 with h | h
          · omega
          · have : i = 9 := by omega
            subst this
            have h2 : 128 * 128 ^ 9 ≤ m * 128 ^ 9 := Nat.mul_le_mul_right _ (by omega)
            omega
        rw [ih (m / 128) (by omega) (i + 1) _ (fun h => by omega) (by omega) (by omega)]
        rw [show (m % 128 + 128) % 128 = m % 128 by omega, Option.some.injEq, Prod.mk.injEq, List.length_cons]
        constructor
        · rw [e]; omega
        · omega
      · rintro (h | ⟨h9, h⟩ | ⟨h, h'⟩)
        · omega
        · subst h9
          have h2 : 128 * 128 ^ 9 ≤ m * 128 ^ 9 := Nat.mul_le_mul_right _ (by omega)
          omega
        · omega
theorem readU_seven (n : Nat) (h : n < 18446744073709551616) (r : List UInt8) : readU (seven n ++ r) = some (n, (seven n).length) := by
  have := rdU_seven r n 0 0 (fun _ => rfl) (by simpa using h) (by decide)
  simpa [readU] using this

/-- the sign back -/
def unzig (u : Nat) : Int := if u % 2 = 1 then -((u / 2 : Nat) : Int) - 1 else ((u / 2 : Nat) : Int)
theorem unzig_zig (n : Int) : unzig (zig n) = n := by
  unfold unzig zig
  split <;> split <;> omega
theorem unzig_lt {u : Nat} (h : u < 18446744073709551616) : -9223372036854775808 ≤ unzig u ∧ unzig u < 9223372036854775808 := by
  unfold unzig; split <;> omega
def readV (s : List UInt8) : Option (Int × Nat) := (readU s).map fun x => (unzig x.1, x.2)

/-- bytes behind their length -/
def textOf (s : List UInt8) : List UInt8 := seven s.length ++ s
def readT (s : List UInt8) : Option (List UInt8 × Nat) :=
  match readU s with
  | none => none
  | some (n, k) => if n ≤ 200000 ∧ k + n ≤ s.length then some ((s.drop k).take n, k + n) else none
theorem readT_text (a r : List UInt8) (h : a.length ≤ 200000) : readT (textOf a ++ r) = some (a, (textOf a).length) := by
  unfold readT textOf
  rw [List.append_assoc, readU_seven _ (by omega)]
  simp only [List.length_append]
  rw [if_pos ⟨h, by omega⟩]
  simp
end Go.Proofs.YthfljcpfcnddhaaGreatDoor

/- Chapter 1 in plain Lean: a number in so many bytes. -/
namespace Go.Proofs.YthfljcpfcnddhaaGreatDoor

/-- so many bytes, the lowest first -/
def little : Nat → Nat → List UInt8
  | 0, _ => []
  | k + 1, n => UInt8.ofNat (n % 256) :: little k (n / 256)
theorem little_len (k : Nat) : ∀ n, (little k n).length = k := by
  induction k with
  | zero => intro n; rfl
  | succ k ih => intro n; simp [little, ih]
theorem little_snoc (k : Nat) : ∀ n, little (k + 1) n = little k n ++ [UInt8.ofNat (n / 256 ^ k % 256)] := by
  induction k with
  | zero => intro n; simp [little]
  | succ k ih =>
    intro n
    rw [little, ih (n / 256), little, List.cons_append, Nat.div_div_eq_div_mul, Nat.pow_succ, Nat.mul_comm 256]
/-- of so many bytes -/
def unlittle : List UInt8 → Nat
  | [] => 0
  | b :: l => b.toNat + 256 * unlittle l
theorem unlittle_lt : ∀ l : List UInt8, unlittle l < 256 ^ l.length
  | [] => by simp [unlittle]
  | b :: l => by
    have := unlittle_lt l
    have hb := b.toNat_lt
    rw [unlittle, List.length_cons, Nat.pow_succ]
    omega
theorem unlittle_snoc (l : List UInt8) (b : UInt8) : unlittle (l ++ [b]) = unlittle l + b.toNat * 256 ^ l.length := by
  induction l with
  | nil => simp [unlittle]
  | cons a l ih =>
    rw [List.cons_append, unlittle, ih, unlittle, List.length_cons, Nat.pow_succ, Nat.mul_add, ← Nat.mul_assoc, Nat.mul_comm 256 b.toNat, Nat.mul_assoc, Nat.mul_comm 256 (256 ^ l.length), Nat.add_assoc]
theorem unlittle_little (k : Nat) : ∀ n, n < 256 ^ k → unlittle (little k n) = n := by
  induction k with
  | zero => intro n h; simp at h; subst h; rfl
  | succ k ih =>
    intro n h
    rw [little, unlittle, ih (n / 256) (by rw [Nat.pow_succ] at h; omega), UInt8.toNat_ofNat', Nat.mod_eq_of_lt (show n % 256 < 2 ^ 8 by omega)]
    omega
theorem little_unlittle : ∀ l : List UInt8, little l.length (unlittle l) = l
  | [] => rfl
  | b :: l => by
    have hb := b.toNat_lt
    rw [List.length_cons, little, unlittle, show (b.toNat + 256 * unlittle l) / 256 = unlittle l by omega, little_unlittle l, show (b.toNat + 256 * unlittle l) % 256 = b.toNat by omega]
    simp
theorem pow256 (k : Nat) : (2 : Nat) ^ (8 * k) = 256 ^ k := by rw [Nat.pow_mul]
end Go.Proofs.YthfljcpfcnddhaaGreatDoor

/- Chapter 2 in plain Lean: bits one behind the other, as a number. -/
namespace Go.Proofs.YthfljcpfcnddhaaGreatDoor

/-- the bytes of so many bits, which are a number -/
def bytesOf (m V : Nat) : List UInt8 := little ((m + 7) / 8) V
theorem bytesOf_len (m V : Nat) : (bytesOf m V).length = (m + 7) / 8 := little_len _ _

theorem little_mod (q : Nat) : ∀ V x, little q (V + 256 ^ q * x) = little q V := by
  induction q with
  | zero => intro V x; rfl
  | succ q ih =>
    intro V x
    have e : V + 256 ^ (q + 1) * x = V + 256 * (256 ^ q * x) := by rw [Nat.pow_succ, Nat.mul_comm (256 ^ q) 256, Nat.mul_assoc]
    rw [little, little, e, Nat.add_mul_mod_self_left, Nat.add_mul_div_left _ _ (by decide : 0 < 256), ih]
theorem little_grow (q V : Nat) (h : V < 2 ^ (8 * q)) : little q V ++ [0] = little (q + 1) V := by
  rw [little_snoc, Nat.div_eq_of_lt (by rwa [← pow256])]; rfl
theorem little_put (q V e b : Nat) (he : e < 8) (hb : b ≤ 1) (hV : V < 2 ^ (8 * q + e)) :
    (little (q + 1) V).set q (UInt8.ofNat (V / 256 ^ q + b * 2 ^ e)) = little (q + 1) (V + b * 2 ^ (8 * q + e)) := by
  have hp : (2 : Nat) ^ e ≤ 128 := Nat.pow_le_pow_right (by decide : 2 > 0) (show e ≤ 7 by omega)
  have h1 : V / 256 ^ q < 2 ^ e := by
    rw [Nat.div_lt_iff_lt_mul (Nat.pow_pos (by decide)), ← pow256, ← Nat.pow_add, Nat.add_comm]; exact hV
  have h2 : V + b * 2 ^ (8 * q + e) = V + 256 ^ q * (b * 2 ^ e) := by rw [Nat.pow_add, pow256, ← Nat.mul_assoc, ← Nat.mul_assoc, Nat.mul_comm b]
  have hb2 : b * 2 ^ e ≤ 128 := Nat.le_trans (Nat.mul_le_mul_right _ hb) (by omega)
  rw [h2, little_snoc q (V + 256 ^ q * (b * 2 ^ e)), little_mod, Nat.add_mul_div_left _ _ (Nat.pow_pos (by decide) : 0 < 256 ^ q), Nat.mod_eq_of_lt (by omega), little_snoc, List.set_append]
  simp [little_len]
/-- the last byte -/
theorem little_last (q V e : Nat) (he : e < 8) (hV : V < 2 ^ (8 * q + e)) : (little (q + 1) V)[q]? = some (UInt8.ofNat (V / 256 ^ q)) ∧ V / 256 ^ q < 2 ^ e := by
  have hp : (2 : Nat) ^ e ≤ 128 := Nat.pow_le_pow_right (by decide : 2 > 0) (show e ≤ 7 by omega)
  have h1 : V / 256 ^ q < 2 ^ e := by
    rw [Nat.div_lt_iff_lt_mul (Nat.pow_pos (by decide)), ← pow256, ← Nat.pow_add, Nat.add_comm]; exact hV
  refine ⟨?_, h1⟩
  rw [little_snoc, Nat.mod_eq_of_lt (by omega)]
  simp [little_len]

/-- numbers of so many bits, one behind the other -/
def packN (w : Nat) : List Nat → Nat
  | [] => 0
  | n :: l => n + 2 ^ w * packN w l
theorem packN_snoc (w n : Nat) : ∀ l, packN w (l ++ [n]) = packN w l + n * 2 ^ (l.length * w)
  | [] => by simp [packN]
  | a :: l => by
    rw [List.cons_append, packN, packN, packN_snoc w n l, List.length_cons, Nat.add_one_mul, Nat.pow_add, Nat.mul_add, ← Nat.add_assoc]
    congr 1
    rw [Nat.mul_comm (2 ^ (l.length * w)) (2 ^ w), ← Nat.mul_assoc, ← Nat.mul_assoc, Nat.mul_comm n]
theorem packN_lt (w : Nat) : ∀ l : List Nat, (∀ n ∈ l, n < 2 ^ w) → packN w l < 2 ^ (l.length * w)
  | [], _ => by simp [packN]
  | a :: l, h => by
    have h1 := packN_lt w l fun n hn => h n (List.mem_cons_of_mem _ hn)
    have h2 := h a (List.mem_cons_self ..)
    rw [packN, List.length_cons, Nat.add_one_mul, Nat.pow_add]
    have h3 : 2 ^ w * (packN w l + 1) ≤ 2 ^ w * 2 ^ (l.length * w) := Nat.mul_le_mul_left _ h1
    rw [Nat.mul_comm (2 ^ (l.length * w))]
    rw [Nat.mul_add] at h3
    omega
/-- the text of numbers, so many bits each -/
def packed (w : Nat) (l : List Nat) : List UInt8 := bytesOf (l.length * w) (packN w l)
/-- some more bits of a number -/
theorem bits_succ (n i : Nat) : n % 2 ^ (i + 1) = n % 2 ^ i + (n / 2 ^ i % 2) * 2 ^ i := by
  rw [Nat.pow_succ, Nat.mod_mul, Nat.mul_comm (2 ^ i)]
end Go.Proofs.YthfljcpfcnddhaaGreatDoor

/- Chapter 2 in plain Lean: the document's list of bits, and the number that they are. -/
namespace Go.Proofs.YthfljcpfcnddhaaGreatDoor

/-- the bits of a number, the lowest first -/
def bitsL : Nat → Nat → List UInt8
  | 0, _ => []
  | k + 1, n => UInt8.ofNat (n % 2) :: bitsL k (n / 2)
theorem bitsL_len (k : Nat) : ∀ n, (bitsL k n).length = k := by
  induction k with
  | zero => intro n; rfl
  | succ k ih => intro n; simp [bitsL, ih]
theorem bitsL_snoc (k : Nat) : ∀ n, bitsL (k + 1) n = bitsL k n ++ [UInt8.ofNat (n / 2 ^ k % 2)] := by
  induction k with
  | zero => intro n; simp [bitsL]
  | succ k ih => intro n; rw [bitsL, ih (n / 2), bitsL, List.cons_append, Nat.div_div_eq_div_mul, Nat.pow_succ, Nat.mul_comm 2]
/-- .. of numbers, one behind the other -/
def allBits (w : Nat) : List Nat → List UInt8
  | [] => []
  | n :: l => bitsL w n ++ allBits w l
theorem allBits_snoc (w n : Nat) : ∀ l, allBits w (l ++ [n]) = allBits w l ++ bitsL w n
  | [] => by simp [allBits]
  | a :: l => by rw [List.cons_append, allBits, allBits, allBits_snoc w n l, List.append_assoc]
theorem allBits_len (w : Nat) : ∀ l : List Nat, (allBits w l).length = l.length * w
  | [] => by simp [allBits]
  | a :: l => by rw [allBits, List.length_append, bitsL_len, allBits_len w l, List.length_cons, Nat.add_one_mul, Nat.add_comm]
/-- the number that bits are -/
def valB : List UInt8 → Nat
  | [] => 0
  | b :: l => b.toNat + 2 * valB l
def Bit (l : List UInt8) : Prop := ∀ b ∈ l, b.toNat < 2
theorem bitsL_bit (k : Nat) : ∀ n, Bit (bitsL k n) := by
  induction k with
  | zero => intro n b hb; simp [bitsL] at hb
  | succ k ih =>
    intro n b hb
    rw [bitsL] at hb
    rcases List.mem_cons.1 hb with rfl | hb
    · rw [UInt8.toNat_ofNat', Nat.mod_eq_of_lt (show n % 2 < 2 ^ 8 by omega)]; omega
    · exact ih _ b hb
theorem allBits_bit (w : Nat) : ∀ l, Bit (allBits w l)
  | [] => by intro b hb; simp [allBits] at hb
  | a :: l => by
    intro b hb
    rw [allBits] at hb
    rcases List.mem_append.1 hb with hb | hb
    · exact bitsL_bit _ _ b hb
    · exact allBits_bit w l b hb
theorem valB_bitsL (k : Nat) : ∀ n, valB (bitsL k n) = n % 2 ^ k := by
  induction k with
  | zero => intro n; simp [bitsL, valB, Nat.mod_one]
  | succ k ih =>
    intro n
    rw [bitsL, valB, ih, UInt8.toNat_ofNat', Nat.mod_eq_of_lt (show n % 2 < 2 ^ 8 by omega), Nat.pow_succ, Nat.mul_comm (2 ^ k) 2, Nat.mod_mul]
theorem valB_append : ∀ a b, valB (a ++ b) = valB a + 2 ^ a.length * valB b
  | [], b => by simp [valB]
  | x :: a, b => by
    rw [List.cons_append, valB, valB_append a b, valB, List.length_cons, Nat.pow_succ, Nat.mul_add, Nat.add_assoc, ← Nat.mul_assoc, Nat.mul_comm 2 (2 ^ a.length)]
theorem valB_allBits (w : Nat) : ∀ l : List Nat, (∀ n ∈ l, n < 2 ^ w) → valB (allBits w l) = packN w l
  | [], _ => rfl
  | a :: l, h => by
    rw [allBits, valB_append, valB_bitsL, bitsL_len, packN, valB_allBits w l fun n hn => h n (List.mem_cons_of_mem _ hn), Nat.mod_eq_of_lt (h a (List.mem_cons_self ..))]
theorem valB_lt : ∀ l, Bit l → valB l < 2 ^ l.length
  | [], _ => by simp [valB]
  | a :: l, h => by
    have h1 := valB_lt l fun b hb => h b (List.mem_cons_of_mem _ hb)
    have h2 := h a (List.mem_cons_self ..)
    rw [valB, List.length_cons, Nat.pow_succ]
    omega
theorem valB_get : ∀ (l : List UInt8) (j : Nat) (b : UInt8), Bit l → l[j]? = some b → valB l / 2 ^ j % 2 = b.toNat
  | [], j, b, _, h => by simp at h
  | a :: l, 0, b, hl, h => by
    simp at h; subst h
    have h2 := hl a (List.mem_cons_self ..)
    rw [valB]; simp; omega
  | a :: l, j + 1, b, hl, h => by
    have h2 := hl a (List.mem_cons_self ..)
    have := valB_get l j b (fun b hb => hl b (List.mem_cons_of_mem _ hb)) (by simpa using h)
    rw [valB, Nat.pow_succ, Nat.mul_comm (2 ^ j) 2, ← Nat.div_div_eq_div_mul, show (a.toNat + 2 * valB l) / 2 = valB l by omega]
    exact this
/-- the byte at a place: what its bits are -/
theorem byte_done (V j k n : Nat) (hV : V < 2 ^ n) (hk : k ≤ 8) (h : k = 8 ∨ n ≤ 8 * j + k) : V / 2 ^ (8 * j) % 2 ^ k = V / 256 ^ j % 256 := by
  rw [pow256]
  rcases h with rfl | h
  · rfl
  · have hp : V / 256 ^ j < 2 ^ k := by
      rw [Nat.div_lt_iff_lt_mul (Nat.pow_pos (by decide)), ← pow256, ← Nat.pow_add]
      exact Nat.lt_of_lt_of_le hV (Nat.pow_le_pow_right (by decide) (by omega))
    have hq : 2 ^ k ≤ 256 := Nat.pow_le_pow_right (n := 2) (by decide) hk
    rw [Nat.mod_eq_of_lt hp, Nat.mod_eq_of_lt (by omega)]
theorem bit_more (V i k : Nat) : V / 2 ^ i % 2 ^ (k + 1) = V / 2 ^ i % 2 ^ k + (V / 2 ^ (i + k) % 2) * 2 ^ k := by
  rw [bits_succ, Nat.div_div_eq_div_mul, ← Nat.pow_add]
/-- the whole text -/
theorem packed_end (w : Nat) (l : List Nat) (hl : ∀ n ∈ l, n < 2 ^ w) (j : Nat) (h1 : l.length * w ≤ 8 * j) (h2 : 8 * j < l.length * w + 8) : little j (valB (allBits w l)) = packed w l := by
  rw [valB_allBits w l hl, packed, bytesOf, show (l.length * w + 7) / 8 = j by omega]
end Go.Proofs.YthfljcpfcnddhaaGreatDoor

/- Chapter 2 in plain Lean: bits read back. -/
namespace Go.Proofs.YthfljcpfcnddhaaGreatDoor

theorem unlittle_at : ∀ (l : List UInt8) (q : Nat) (b : UInt8), l[q]? = some b → unlittle l / 256 ^ q % 256 = b.toNat
  | [], q, b, h => by simp at h
  | a :: l, 0, b, h => by
    simp at h; subst h
    have := a.toNat_lt
    rw [unlittle]; simp
  | a :: l, q + 1, b, h => by
    have ha := a.toNat_lt
    have := unlittle_at l q b (by simpa using h)
    rw [unlittle, Nat.pow_succ, Nat.mul_comm (256 ^ q) 256, ← Nat.div_div_eq_div_mul, show (a.toNat + 256 * unlittle l) / 256 = unlittle l by omega]
    exact this
theorem bit_of_byte (X e : Nat) (he : e < 8) : X % 256 / 2 ^ e % 2 = X / 2 ^ e % 2 := by
  have : e = 0 ∨ e = 1 ∨ e = 2 ∨ e = 3 ∨ e = 4 ∨ e = 5 ∨ e = 6 ∨ e = 7 := by omega
  rcases this with rfl | rfl | rfl | rfl | rfl | rfl | rfl | rfl <;> omega
/-- a bit of the text -/
theorem unlittle_bit (l : List UInt8) (k : Nat) (b : UInt8) (h : l[k / 8]? = some b) : b.toNat / 2 ^ (k % 8) % 2 = unlittle l / 2 ^ k % 2 := by
  rw [← unlittle_at l (k / 8) b h, bit_of_byte _ _ (Nat.mod_lt _ (by decide)), Nat.div_div_eq_div_mul, ← pow256, ← Nat.pow_add, Nat.div_add_mod]
/-- so many numbers of so many bits -/
def getAll (U w : Nat) : Nat → List Nat
  | 0 => []
  | n + 1 => getAll U w n ++ [U / 2 ^ (n * w) % 2 ^ w]
theorem getAll_len (U w : Nat) : ∀ n, (getAll U w n).length = n
  | 0 => rfl
  | n + 1 => by rw [getAll, List.length_append, getAll_len U w n]; rfl
theorem getAll_lt (U w : Nat) : ∀ n, ∀ x ∈ getAll U w n, x < 2 ^ w
  | 0 => by intro x hx; simp [getAll] at hx
  | n + 1 => by
    intro x hx
    rw [getAll] at hx
    rcases List.mem_append.1 hx with hx | hx
    · exact getAll_lt U w n x hx
    · rw [List.mem_singleton] at hx
      subst hx
      exact Nat.mod_lt _ (Nat.pow_pos (by decide))
theorem packN_get (w : Nat) : ∀ (l : List Nat), (∀ n ∈ l, n < 2 ^ w) → ∀ (i x : Nat), l[i]? = some x → packN w l / 2 ^ (i * w) % 2 ^ w = x
  | [], _, i, x, h => by simp at h
  | a :: l, hl, 0, x, h => by
    simp at h; subst h
    rw [packN, Nat.zero_mul, Nat.pow_zero, Nat.div_one, Nat.add_mul_mod_self_left, Nat.mod_eq_of_lt (hl a (List.mem_cons_self ..))]
  | a :: l, hl, i + 1, x, h => by
    have := packN_get w l (fun n hn => hl n (List.mem_cons_of_mem _ hn)) i x (by simpa using h)
    rw [packN, Nat.add_one_mul, Nat.pow_add, Nat.mul_comm (2 ^ (i * w)), ← Nat.div_div_eq_div_mul, Nat.add_mul_div_left _ _ (Nat.pow_pos (by decide)), Nat.div_eq_of_lt (hl a (List.mem_cons_self ..)), Nat.zero_add]
    exact this
theorem getAll_eq (U w : Nat) (l : List Nat) (h : ∀ (i x : Nat), l[i]? = some x → U / 2 ^ (i * w) % 2 ^ w = x) : ∀ n, n ≤ l.length → getAll U w n = l.take n
  | 0, _ => by simp [getAll]
  | n + 1, hn => by
    rw [getAll, getAll_eq U w l h n (by omega), List.take_succ_eq_append_getElem (by omega)]
    rw [h n l[n] (List.getElem?_eq_getElem (by omega))]
theorem unlittle_append : ∀ (a b : List UInt8), unlittle (a ++ b) = unlittle a + 256 ^ a.length * unlittle b
  | [], b => by simp [unlittle]
  | x :: a, b => by
    rw [List.cons_append, unlittle, unlittle_append a b, unlittle, List.length_cons, Nat.pow_succ, Nat.mul_add, Nat.add_assoc, ← Nat.mul_assoc, Nat.mul_comm 256 (256 ^ a.length)]
/-- what is packed is unpacked, whatever lies behind it -/
theorem getAll_packed (w : Nat) (l : List Nat) (hl : ∀ n ∈ l, n < 2 ^ w) (behind : List UInt8) : getAll (unlittle (packed w l ++ behind)) w l.length = l := by
  have hp := packN_lt w l hl
  have hc : packN w l < 256 ^ ((l.length * w + 7) / 8) := by
    rw [← pow256]
    exact Nat.lt_of_lt_of_le hp (Nat.pow_le_pow_right (by decide) (by omega))
  have hU : unlittle (packed w l ++ behind) = packN w l + 256 ^ ((l.length * w + 7) / 8) * unlittle behind := by
    rw [unlittle_append, packed, bytesOf_len, bytesOf, unlittle_little _ _ hc]
  rw [getAll_eq _ w l ?_ l.length (Nat.le_refl _), List.take_length]
  intro i x hx
  have hi : i < l.length := (List.getElem?_eq_some_iff.1 hx).1
  rw [hU, ← packN_get w l hl i x hx, ← pow256]
  have h1 : (i + 1) * w ≤ 8 * ((l.length * w + 7) / 8) := by
    have : (i + 1) * w ≤ l.length * w := Nat.mul_le_mul_right _ hi
    omega
  obtain ⟨d, hd⟩ := Nat.le.dest h1
  rw [← hd, Nat.add_one_mul, Nat.pow_add, Nat.pow_add, Nat.mul_assoc, Nat.mul_assoc, Nat.add_mul_div_left _ _ (Nat.pow_pos (by decide)), Nat.add_mul_mod_self_left]
end Go.Proofs.YthfljcpfcnddhaaGreatDoor

/- Chapter 3 in plain Lean: values and their order. -/
namespace Go.Proofs.YthfljcpfcnddhaaGreatDoor
set_option linter.unusedVariables false
open Go

open Go.Op (bytesLess)
theorem bl_irrefl : ∀ x, bytesLess x x = false
  | [] => rfl
  | a :: x => by
    have ih := bl_irrefl x
    simp only [bytesLess, ih, Bool.and_false, Bool.or_false, decide_eq_false_iff_not, UInt8.lt_iff_toNat_lt]
    omega
theorem bl_trans : ∀ x y z, bytesLess x y = true → bytesLess y z = true → bytesLess x z = true
  | _, [], _, h, _ => by simp [bytesLess] at h
  | _, _ :: _, [], _, h => by simp [bytesLess] at h
  | [], _ :: _, _ :: _, _, _ => rfl
  | a :: x, b :: y, c :: z, h1, h2 => by
    have ih := bl_trans x y z
    simp only [bytesLess, Bool.or_eq_true, decide_eq_true_eq, Bool.and_eq_true, beq_iff_eq, UInt8.lt_iff_toNat_lt, ← UInt8.toNat_inj] at h1 h2 ⊢
    rcases h1 with h1 | ⟨h1, h1'⟩ <;> rcases h2 with h2 | ⟨h2, h2'⟩
    · exact .inl (by omega)
    · exact .inl (by omega)
    · exact .inl (by omega)
    · exact .inr ⟨by omega, ih h1' h2'⟩
theorem bl_total : ∀ x y, bytesLess x y = false → bytesLess y x = false → x = y
  | [], [], _, _ => rfl
  | [], _ :: _, h, _ => by simp [bytesLess] at h
  | _ :: _, [], _, h => by simp [bytesLess] at h
  | a :: x, b :: y, h1, h2 => by
    have ih := bl_total x y
    simp only [bytesLess, Bool.or_eq_false_iff, decide_eq_false_iff_not, Bool.and_eq_false_iff, beq_eq_false_iff_ne, ne_eq, UInt8.lt_iff_toNat_lt, ← UInt8.toNat_inj] at h1 h2
    have e : a.toNat = b.toNat := by omega
    have e1 : bytesLess x y = false := by rcases h1.2 with h | h <;> first | exact h | omega
    have e2 : bytesLess y x = false := by rcases h2.2 with h | h <;> first | exact h | omega
    rw [UInt8.toNat_inj.1 e, ih e1 e2]

/-- a value of a leaf -/
structure Val where
  k : Int
  n : Int
  s : ByteArray
def Val.val (x : Val) : Value := .agg #[.int .i64 x.k, .int .i64 x.n, .string x.s]
/-- as Go can hold it -/
structure Val.Ok (x : Val) : Prop where
  k0 : -9223372036854775808 ≤ x.k
  k1 : x.k < 9223372036854775808
  n0 : -9223372036854775808 ≤ x.n
  n1 : x.n < 9223372036854775808
  s1 : x.s.size ≤ maxLen

/-- a double's bits in its order -/
def keyOf (n : Int) : Int := if n < 0 then -9223372036854775809 - n else n
def Val.less (a b : Val) : Bool :=
  if a.k ≠ b.k then decide (a.k < b.k) else if a.k = 4 then bytesLess a.s.toList b.s.toList else if a.k = 5 then decide (keyOf a.n < keyOf b.n) else decide (a.n < b.n)
/-- the document's way -/
theorem keyOf_lt (a b : Int) (a0 : -9223372036854775808 ≤ a) (a1 : a < 9223372036854775808) (b0 : -9223372036854775808 ≤ b) (b1 : b < 9223372036854775808) :
    decide (keyOf a < keyOf b) = (if 0 ≤ a ∧ 0 ≤ b then decide (a < b) else if a < 0 ∧ b < 0 then decide (b < a) else decide (a < 0)) := by
  unfold keyOf
  split <;> split <;> split <;> (try split) <;> first | omega | rfl | (rw [decide_eq_decide]; omega)

/-- one of a kind -/
structure Val.Is (x : Val) (kind : Int) : Prop where
  k : x.k = kind
  lo : 1 ≤ kind
  hi : kind ≤ 5
  text : kind = 4 → x.n = 0 ∧ x.s.size ≤ 100
  num : kind ≠ 4 → x.s.size = 0
  bool : kind = 1 → 0 ≤ x.n ∧ x.n ≤ 1
  int : kind = 2 → -2147483648 ≤ x.n ∧ x.n ≤ 2147483647

theorem empty_list {s : ByteArray} (h : s.size = 0) : s = ⟨#[]⟩ := by
  cases s with
  | mk a => congr 1; exact Array.eq_empty_of_size_eq_zero h
theorem toList_inj {s t : ByteArray} (h : s.toList = t.toList) : s = t := by
  rw [ByteArray.toList_eq, ByteArray.toList_eq] at h
  cases s; cases t; congr 1; exact Array.toList_inj.1 h

theorem Val.less_irrefl (a : Val) : a.less a = false := by
  unfold Val.less
  simp [bl_irrefl]
theorem Val.less_trans {kind : Int} {a b c : Val} (ha : a.Is kind) (hb : b.Is kind) (hc : c.Is kind) (h1 : a.less b = true) (h2 : b.less c = true) : a.less c = true := by
  unfold Val.less at *
  rw [ha.k, hb.k] at h1
  rw [hb.k, hc.k] at h2
  rw [ha.k, hc.k]
  simp only [ne_eq, not_true_eq_false, if_false] at *
  split
  · rw [if_pos (by assumption)] at h1 h2
    exact bl_trans _ _ _ h1 h2
  · rw [if_neg (by assumption)] at h1 h2
    split
    · rw [if_pos (by assumption), decide_eq_true_eq] at h1 h2
      rw [decide_eq_true_eq]; omega
    · rw [if_neg (by assumption), decide_eq_true_eq] at h1 h2
      rw [decide_eq_true_eq]; omega
theorem Val.less_total {kind : Int} {a b : Val} (oa : a.Ok) (ob : b.Ok) (ha : a.Is kind) (hb : b.Is kind) (h1 : a.less b = false) (h2 : b.less a = false) : a = b := by
  unfold Val.less at *
  rw [ha.k, hb.k] at h1 h2
  simp only [ne_eq, not_true_eq_false, if_false] at *
  have hk : a.k = b.k := ha.k.trans hb.k.symm
  obtain ⟨ak, an, as'⟩ := a
  obtain ⟨bk, bn, bs⟩ := b
  simp only at hk
  subst hk
  by_cases h4 : kind = 4
  · rw [if_pos h4] at h1 h2
    have e := toList_inj (bl_total _ _ h1 h2)
    have e1 := (ha.text h4).1
    have e2 := (hb.text h4).1
    simp only at e e1 e2
    rw [e, e1, e2]
  · rw [if_neg h4] at h1 h2
    have e1 := empty_list (ha.num h4)
    have e2 := empty_list (hb.num h4)
    simp only at e1 e2
    have : an = bn := by
      split at h1
      · rw [if_pos (by assumption)] at h2
        have o1 := oa.n0
        have o2 := ob.n0
        simp only [decide_eq_false_iff_not] at h1 h2 o1 o2
        have key1 : ∀ n : Int, (n < 0 → keyOf n = -9223372036854775809 - n) ∧ (¬ n < 0 → keyOf n = n) := fun n => ⟨fun h => if_pos h, fun h => if_neg h⟩
        have k1 := key1 an
        have k2 := key1 bn
        omega
      · rw [if_neg (by assumption)] at h2
        simp only [decide_eq_false_iff_not] at h1 h2
        omega
    rw [e1, e2, this]
theorem Val.less_asymm {kind : Int} {a b : Val} (ha : a.Is kind) (hb : b.Is kind) (h1 : a.less b = true) : b.less a = false := by
  cases h : b.less a with
  | false => rfl
  | true => have := Val.less_trans ha hb ha h1 h; rw [Val.less_irrefl] at this; cases this
end Go.Proofs.YthfljcpfcnddhaaGreatDoor

/- Chapter 2 in plain Lean: runs of numbers. -/
namespace Go.Proofs.YthfljcpfcnddhaaGreatDoor
set_option linter.unusedVariables false

/-- how many of the first are the same -/
def headRun : List Nat → Nat
  | [] => 0
  | a :: l => (l.takeWhile (· == a)).length + 1
theorem takeWhile_at {p : Nat → Bool} : ∀ (l : List Nat) (j : Nat), j < (l.takeWhile p).length → ∃ x, l[j]? = some x ∧ p x = true
  | [], j, h => by simp at h
  | a :: l, j, h => by
    rw [List.takeWhile_cons] at h
    split at h
    · cases j with
      | zero => exact ⟨a, rfl, by assumption⟩
      | succ j => exact takeWhile_at l j (by simpa using h)
    · simp at h
theorem takeWhile_stop {p : Nat → Bool} : ∀ (l : List Nat) (x : Nat), l[(l.takeWhile p).length]? = some x → p x = false
  | [], x, h => by simp at h
  | a :: l, x, h => by
    rw [List.takeWhile_cons] at h
    split at h
    · exact takeWhile_stop l x (by simpa using h)
    · simp at h; subst h; exact Bool.eq_false_iff.2 (by assumption)
theorem takeWhile_le {p : Nat → Bool} (l : List Nat) : (l.takeWhile p).length ≤ l.length := (List.takeWhile_sublist p).length_le
theorem headRun_le (l : List Nat) : headRun l ≤ l.length := by
  cases l with
  | nil => simp [headRun]
  | cons a l => have := takeWhile_le (p := (· == a)) l; simp [headRun]; omega
theorem headRun_pos (a : Nat) (l : List Nat) : 0 < headRun (a :: l) := by simp [headRun]
theorem headRun_at (a : Nat) (l : List Nat) (j : Nat) (h : j < headRun (a :: l)) : (a :: l)[j]? = some a := by
  cases j with
  | zero => rfl
  | succ j =>
    obtain ⟨x, h1, h2⟩ := takeWhile_at l j (by simp [headRun] at h; omega)
    rw [List.getElem?_cons_succ, h1, beq_iff_eq.1 h2]
theorem headRun_stop (a : Nat) (l : List Nat) (x : Nat) (h : (a :: l)[headRun (a :: l)]? = some x) : x ≠ a := by
  have := takeWhile_stop l x (p := (· == a)) (by simpa [headRun] using h)
  simpa using this
/-- the count that stands still is it -/
theorem headRun_eq (a : Nat) (l : List Nat) (c : Nat) (hc : c ≤ (a :: l).length) (h1 : c ≤ headRun (a :: l)) (h2 : c = (a :: l).length ∨ ∃ x, (a :: l)[c]? = some x ∧ x ≠ a) : c = headRun (a :: l) := by
  rcases h2 with h2 | ⟨x, h3, h4⟩
  · have := headRun_le (a :: l); omega
  · by_cases h : c < headRun (a :: l)
    · rw [headRun_at a l c h] at h3
      exact absurd (Option.some.inj h3).symm h4
    · omega

/-- eight numbers, with nothing behind them -/
def pad8 (l : List Nat) : List Nat := l.take 8 ++ List.replicate (8 - l.length) 0
theorem pad8_len (l : List Nat) : (pad8 l).length = 8 := by simp [pad8]; omega

def sizeB (wd : Nat) : Nat := (wd + 7) / 8
/-- a part of the second kind, if there is one -/
def flush (wd : Nat) (o : List Nat) : List UInt8 := if o = [] then [] else seven (2 * (o.length / 8) + 1) ++ packed wd o
/-- numbers as runs, some standing open before them -/
def runsB (wd : Nat) (l o : List Nat) : List UInt8 :=
  match l with
  | [] => flush wd o
  | a :: l => if 8 ≤ headRun (a :: l) then flush wd o ++ (seven (2 * headRun (a :: l)) ++ little (sizeB wd) a ++ runsB wd ((a :: l).drop (headRun (a :: l))) [])
    else runsB wd ((a :: l).drop 8) (o ++ pad8 (a :: l))
termination_by l.length
decreasing_by
  · simp only [List.length_drop, List.length_cons]; have := headRun_pos a l; omega
  · simp only [List.length_drop, List.length_cons]; omega
theorem runsB_nil (wd : Nat) (o : List Nat) : runsB wd [] o = flush wd o := by rw [runsB]
theorem runsB_run (wd a : Nat) (l o : List Nat) (h : 8 ≤ headRun (a :: l)) : runsB wd (a :: l) o = flush wd o ++ (seven (2 * headRun (a :: l)) ++ little (sizeB wd) a ++ runsB wd ((a :: l).drop (headRun (a :: l))) []) := by
  rw [runsB, if_pos h]
theorem runsB_open (wd a : Nat) (l o : List Nat) (h : headRun (a :: l) < 8) : runsB wd (a :: l) o = runsB wd ((a :: l).drop 8) (o ++ pad8 (a :: l)) := by
  rw [runsB, if_neg (by omega)]
theorem flush_nil (wd : Nat) : flush wd [] = [] := rfl
theorem flush_cons (wd : Nat) {o : List Nat} (h : o ≠ []) : flush wd o = seven (2 * (o.length / 8) + 1) ++ packed wd o := if_neg h

/-- runs read: the numbers, and how many bytes -/
def readR (wd left : Nat) (s : List UInt8) : Option (List Nat × Nat) :=
  if h0 : left = 0 then some ([], 0) else
  match readU s with
  | none => none
  | some (h, k) =>
    if h1 : h < 2 ∨ left < h / 2 then none
    else if h % 2 = 0 then
      if (s.drop k).length < sizeB wd ∨ 2 ^ wd ≤ unlittle ((s.drop k).take (sizeB wd)) then none
      else (readR wd (left - h / 2) (s.drop (k + sizeB wd))).map fun x => (List.replicate (h / 2) (unlittle ((s.drop k).take (sizeB wd))) ++ x.1, k + sizeB wd + x.2)
    else if (s.drop k).length < h / 2 * wd ∨ left + 8 ≤ 8 * (h / 2) ∨ ¬ ∀ x ∈ (getAll (unlittle (s.drop k)) wd (8 * (h / 2))).drop left, x = 0 then none
      else (readR wd (left - 8 * (h / 2)) (s.drop (k + h / 2 * wd))).map fun x => ((getAll (unlittle (s.drop k)) wd (8 * (h / 2))).take left ++ x.1, k + h / 2 * wd + x.2)
termination_by left
decreasing_by
  · omega
  · omega
theorem readR_zero (wd : Nat) (s : List UInt8) : readR wd 0 s = some ([], 0) := by rw [readR, dif_pos rfl]
theorem readR_none (wd left : Nat) (s : List UInt8) (h0 : 0 < left) (h : readU s = none) : readR wd left s = none := by rw [readR, dif_neg (by omega), h]
theorem readR_bad (wd left h k : Nat) (s : List UInt8) (h0 : 0 < left) (hU : readU s = some (h, k)) (h1 : h < 2 ∨ left < h / 2) : readR wd left s = none := by
  rw [readR, dif_neg (by omega), hU]; exact dif_pos h1
theorem readR_even_bad (wd left h k : Nat) (s : List UInt8) (h0 : 0 < left) (hU : readU s = some (h, k)) (h1 : ¬ (h < 2 ∨ left < h / 2)) (h2 : h % 2 = 0)
    (h3 : (s.drop k).length < sizeB wd ∨ 2 ^ wd ≤ unlittle ((s.drop k).take (sizeB wd))) : readR wd left s = none := by
  rw [readR, dif_neg (by omega), hU]; simp only; rw [dif_neg h1, if_pos h2, if_pos h3]
theorem readR_even (wd left h k : Nat) (s : List UInt8) (h0 : 0 < left) (hU : readU s = some (h, k)) (h1 : ¬ (h < 2 ∨ left < h / 2)) (h2 : h % 2 = 0)
    (h3 : ¬ ((s.drop k).length < sizeB wd ∨ 2 ^ wd ≤ unlittle ((s.drop k).take (sizeB wd)))) :
    readR wd left s = (readR wd (left - h / 2) (s.drop (k + sizeB wd))).map fun x => (List.replicate (h / 2) (unlittle ((s.drop k).take (sizeB wd))) ++ x.1, k + sizeB wd + x.2) := by
  rw [readR, dif_neg (by omega), hU]; simp only; rw [dif_neg h1, if_pos h2, if_neg h3]
theorem readR_odd_bad (wd left h k : Nat) (s : List UInt8) (h0 : 0 < left) (hU : readU s = some (h, k)) (h1 : ¬ (h < 2 ∨ left < h / 2)) (h2 : h % 2 = 1)
    (h3 : (s.drop k).length < h / 2 * wd ∨ left + 8 ≤ 8 * (h / 2) ∨ ¬ ∀ x ∈ (getAll (unlittle (s.drop k)) wd (8 * (h / 2))).drop left, x = 0) : readR wd left s = none := by
  rw [readR, dif_neg (by omega), hU]; simp only; rw [dif_neg h1, if_neg (by omega), if_pos h3]
theorem readR_odd (wd left h k : Nat) (s : List UInt8) (h0 : 0 < left) (hU : readU s = some (h, k)) (h1 : ¬ (h < 2 ∨ left < h / 2)) (h2 : h % 2 = 1)
    (h3 : ¬ ((s.drop k).length < h / 2 * wd ∨ left + 8 ≤ 8 * (h / 2) ∨ ¬ ∀ x ∈ (getAll (unlittle (s.drop k)) wd (8 * (h / 2))).drop left, x = 0)) :
    readR wd left s = (readR wd (left - 8 * (h / 2)) (s.drop (k + h / 2 * wd))).map fun x => ((getAll (unlittle (s.drop k)) wd (8 * (h / 2))).take left ++ x.1, k + h / 2 * wd + x.2) := by
  rw [readR, dif_neg (by omega), hU]; simp only; rw [dif_neg h1, if_neg (by omega), if_neg h3]
theorem flush_len (wd : Nat) (o : List Nat) (hw : wd ≤ 32) (ho : o.length < 1000000000) : (flush wd o).length ≤ 4 * o.length + 12 := by
  by_cases h : o = []
  · rw [h]; simp [flush_nil]
  · rw [flush_cons wd h, List.length_append, packed, bytesOf_len]
    have h1 : o.length * wd ≤ o.length * 32 := Nat.mul_le_mul_left _ hw
    have h2 := seven_len (show 2 * (o.length / 8) + 1 < 18446744073709551616 by omega)
    omega
theorem runsB_len (wd : Nat) (hw : wd ≤ 32) : ∀ (n : Nat) (l o : List Nat), l.length = n → 40 * l.length + 4 * o.length < 1000000000 → (runsB wd l o).length ≤ 40 * l.length + 4 * o.length + 12 := by
  intro n
  induction n using Nat.strongRecOn with
  | _ n ih =>
    intro l o hn hb
    cases l with
    | nil =>
      rw [runsB_nil]
      have := flush_len wd o hw (by omega)
      simp; omega
    | cons a l =>
      have hle := headRun_le (a :: l)
      have hpos := headRun_pos a l
      rw [List.length_cons] at hn hb ⊢
      by_cases hr : 8 ≤ headRun (a :: l)
      · rw [runsB_run wd a l o hr]
        have h1 := ih _ (by rw [List.length_drop, List.length_cons]; omega) ((a :: l).drop (headRun (a :: l))) [] rfl (by rw [List.length_drop, List.length_cons, List.length_nil]; omega)
        have h2 := flush_len wd o hw (by omega)
        rw [List.length_cons] at hle
        have h3 := seven_len (show 2 * headRun (a :: l) < 18446744073709551616 by omega)
        have h4 : sizeB wd ≤ 4 := by unfold sizeB; omega
        rw [List.length_drop, List.length_cons, List.length_nil] at h1
        simp only [List.length_append, little_len]
        omega
      · rw [runsB_open wd a l o (by omega)]
        have h1 := ih _ (by rw [List.length_drop, List.length_cons]; omega) ((a :: l).drop 8) (o ++ pad8 (a :: l)) rfl (by rw [List.length_drop, List.length_cons, List.length_append, pad8_len]; omega)
        rw [List.length_drop, List.length_cons, List.length_append, pad8_len] at h1
        omega
end Go.Proofs.YthfljcpfcnddhaaGreatDoor

/- Chapter 2 in plain Lean: what is written as runs is read. -/
namespace Go.Proofs.YthfljcpfcnddhaaGreatDoor
set_option linter.unusedVariables false

theorem packed8_len (wd : Nat) (o : List Nat) (c : Nat) (h : o.length = 8 * c) : (packed wd o).length = c * wd := by
  rw [packed, bytesOf_len, h, Nat.mul_assoc]; omega
theorem drop_len_append {α : Type} (a b : List α) : (a ++ b).drop a.length = b := by simp
theorem drop_len_append' {α : Type} (a b c : List α) (n : Nat) (h : n = a.length + b.length) : (a ++ (b ++ c)).drop n = c := by
  subst h; rw [← List.append_assoc, ← List.length_append]; exact drop_len_append _ _

theorem readR_flush' (wd m z : Nat) (o real : List Nat) (rest : List UInt8) (ho : o = real ++ List.replicate z 0) (hz : z < 8) (h8 : o.length % 8 = 0) (hm : 0 < m → z = 0)
    (hl : ∀ x ∈ o, x < 2 ^ wd) (hb : real.length + m < 4611686018427387904) :
    readR wd (real.length + m) (flush wd o ++ rest) = (readR wd m rest).map fun x => (real ++ x.1, (flush wd o).length + x.2) := by
  by_cases h0 : o = []
  · subst h0
    have hr : real = [] := by
      have := congrArg List.length ho
      simp at this
      exact List.eq_nil_of_length_eq_zero (by omega)
    subst hr
    simp only [flush_nil, List.length_nil, List.nil_append, Nat.zero_add]
    cases readR wd m rest <;> rfl
  · rw [flush_cons wd h0]
    have hpos : 0 < o.length := List.length_pos_iff.2 h0
    have hlen : o.length = real.length + z := by rw [ho]; simp
    obtain ⟨c, hc⟩ : ∃ c, o.length = 8 * c := ⟨o.length / 8, by omega⟩
    have hd : o.length / 8 = c := by omega
    rw [hd]
    have hU := readU_seven (2 * c + 1) (by omega) (packed wd o ++ rest)
    have hdr : (seven (2 * c + 1) ++ (packed wd o ++ rest)).drop (seven (2 * c + 1)).length = packed wd o ++ rest := drop_len_append _ _
    have hpl := packed8_len wd o c hc
    have hh : (2 * c + 1) / 2 = c := by omega
    have hg : getAll (unlittle (packed wd o ++ rest)) wd (8 * ((2 * c + 1) / 2)) = o := by
      rw [hh, ← hc]; exact getAll_packed wd o hl rest
    rw [List.append_assoc, readR_odd wd _ (2 * c + 1) _ _ (by omega) hU (by omega) (by omega) ?_]
    · rw [hdr, hg, hh, drop_len_append' _ _ _ _ (by rw [hpl])]
      have e1 : real.length + m - 8 * c = m := by
        by_cases hm0 : 0 < m
        · have := hm hm0; omega
        · omega
      have e2 : o.take (real.length + m) = real := by
        rw [ho]
        by_cases hm0 : 0 < m
        · rw [hm hm0, List.replicate_zero, List.append_nil]; exact List.take_of_length_le (by omega)
        · rw [show m = 0 by omega]; simp
      rw [e1, e2]
      congr 1
      funext x
      rw [List.length_append, hpl]
    · rw [hdr, hg, hh]
      intro h
      rcases h with h | h | h
      · rw [List.length_append, hpl] at h; omega
      · omega
      · apply h
        intro x hx
        rw [ho] at hx
        by_cases hm0 : 0 < m
        · rw [hm hm0, List.replicate_zero, List.append_nil, List.drop_eq_nil_of_le (by omega)] at hx; simp at hx
        · rw [show m = 0 by omega] at hx
          simp at hx
          exact hx.2

theorem readR_run (wd m c a : Nat) (rest : List UInt8) (hc : 8 ≤ c) (ha : a < 2 ^ wd) (hb : c + m < 4611686018427387904) :
    readR wd (c + m) (seven (2 * c) ++ little (sizeB wd) a ++ rest) = (readR wd m rest).map fun x => (List.replicate c a ++ x.1, (seven (2 * c) ++ little (sizeB wd) a).length + x.2) := by
  have hU := readU_seven (2 * c) (by omega) (little (sizeB wd) a ++ rest)
  have hdr : (seven (2 * c) ++ (little (sizeB wd) a ++ rest)).drop (seven (2 * c)).length = little (sizeB wd) a ++ rest := drop_len_append _ _
  have hll := little_len (sizeB wd) a
  have hh : (2 * c) / 2 = c := by omega
  have hlt : a < 256 ^ sizeB wd := by
    rw [← pow256]
    exact Nat.lt_of_lt_of_le ha (Nat.pow_le_pow_right (by decide) (by unfold sizeB; omega))
  have hx : unlittle ((little (sizeB wd) a ++ rest).take (sizeB wd)) = a := by
    rw [List.take_append_of_le_length (by omega), List.take_of_length_le (by omega), unlittle_little _ _ hlt]
  rw [List.append_assoc, readR_even wd _ (2 * c) _ _ (by omega) hU (by omega) (by omega) ?_]
  · rw [hdr, hx, hh, drop_len_append' _ _ _ _ (by rw [hll]), show c + m - c = m by omega]
    congr 1
    funext x
    rw [List.length_append, hll]
  · rw [hdr, hx, List.length_append, hll]
    omega

theorem headRun_take (a : Nat) (l : List Nat) : (a :: l).take (headRun (a :: l)) = List.replicate (headRun (a :: l)) a := by
  have hle := headRun_le (a :: l)
  apply List.ext_getElem?
  intro j
  rw [List.getElem?_take, List.getElem?_replicate]
  split
  · exact headRun_at a l j (by assumption)
  · rfl

theorem readR_runs (wd : Nat) (behind : List UInt8) : ∀ (n : Nat) (l o real : List Nat) (z : Nat), l.length = n → (∀ x ∈ l, x < 2 ^ wd) → (∀ x ∈ o, x < 2 ^ wd) → o = real ++ List.replicate z 0 → z < 8 → o.length % 8 = 0 → (l ≠ [] → z = 0) →
    real.length + l.length < 4611686018427387904 →
    readR wd (real.length + l.length) (runsB wd l o ++ behind) = some (real ++ l, (runsB wd l o).length) := by
  intro n
  induction n using Nat.strongRecOn with
  | _ n ih =>
    intro l o real z hn hl ho hoz hz h8 hlz hb
    cases l with
    | nil =>
      rw [runsB_nil, List.length_nil, readR_flush' wd 0 z o real behind hoz hz h8 (by omega) ho (by simpa using hb), readR_zero]
      simp
    | cons a l =>
      have hz0 : z = 0 := hlz (by simp)
      by_cases hr : 8 ≤ headRun (a :: l)
      · rw [runsB_run wd a l o hr]
        have hle := headRun_le (a :: l)
        have hsub : ∀ x ∈ (a :: l).drop (headRun (a :: l)), x < 2 ^ wd := fun x hx => hl x (List.mem_of_mem_drop hx)
        have hln : ((a :: l).drop (headRun (a :: l))).length = (a :: l).length - headRun (a :: l) := List.length_drop
        have hIH := ih _ (by rw [hln, ← hn]; omega) ((a :: l).drop (headRun (a :: l))) [] [] 0 rfl hsub (by simp) (by simp) (by omega) (by simp) (by simp) (by rw [hln]; simp only [List.length_nil]; omega)
        rw [List.append_assoc, readR_flush' wd _ z o real _ hoz hz h8 (fun _ => hz0) ho hb]
        have e : (a :: l).length = headRun (a :: l) + ((a :: l).drop (headRun (a :: l))).length := by rw [hln]; omega
        rw [e, List.append_assoc, readR_run wd _ (headRun (a :: l)) a _ hr (hl a (List.mem_cons_self ..)) (by rw [← e]; omega)]
        rw [List.length_nil, Nat.zero_add] at hIH
        rw [hIH]
        simp only [Option.map_some, List.nil_append, List.length_append]
        rw [← headRun_take, List.take_append_drop, ← Nat.add_assoc]
      · rw [runsB_open wd a l o (by omega)]
        have hpow : 0 < 2 ^ wd := Nat.pow_pos (by decide)
        have hIH := ih _ (by rw [List.length_drop, ← hn, List.length_cons]; omega) ((a :: l).drop 8) (o ++ pad8 (a :: l)) (real ++ (a :: l).take 8) (8 - (a :: l).length) rfl (fun x hx => hl x (List.mem_of_mem_drop hx))
          (by
            intro x hx
            rcases List.mem_append.1 hx with hx | hx
            · exact ho x hx
            · rcases List.mem_append.1 hx with hx | hx
              · exact hl x (List.mem_of_mem_take hx)
              · rw [(List.mem_replicate.1 hx).2]; exact hpow)
          (by rw [hoz, hz0, pad8]; simp)
          (by simp only [List.length_cons]; omega)
          (by rw [List.length_append, pad8_len]; omega)
          (by
            intro h
            have : 0 < ((a :: l).drop 8).length := List.length_pos_iff.2 h
            rw [List.length_drop] at this
            omega)
          (by rw [List.length_append, List.length_take, List.length_drop]; omega)
        rw [show (real ++ (a :: l).take 8).length + ((a :: l).drop 8).length = real.length + (a :: l).length by rw [List.length_append, List.length_take, List.length_drop]; omega] at hIH
        rw [hIH, List.append_assoc, List.take_append_drop]
theorem readR_twice (wd : Nat) (l : List Nat) (behind : List UInt8) (hl : ∀ x ∈ l, x < 2 ^ wd) (hb : l.length < 4611686018427387904) :
    readR wd l.length (runsB wd l [] ++ behind) = some (l, (runsB wd l []).length) := by
  have := readR_runs wd behind l.length l [] [] 0 rfl hl (by simp) (by simp) (by omega) (by simp) (by simp) (by simpa using hb)
  simpa using this
end Go.Proofs.YthfljcpfcnddhaaGreatDoor

/- Chapter 1 in plain Lean: what is read as a number, a text, is what is written. -/
namespace Go.Proofs.YthfljcpfcnddhaaGreatDoor

theorem rdU_inv : ∀ (s : List UInt8) (i acc n k : Nat), rdU i s acc = some (n, k) → ∃ m, n = acc + m * 128 ^ i ∧ s.take (k - i) = seven m ∧ (m = 0 → i = 0) ∧ i < k
  | [], _, _, _, _, h => by simp [rdU] at h
  | c :: r, i, acc, n, k, h => by
    have hc256 := c.toNat_lt
    rw [rdU] at h
    split at h
    · cases h
    · rename_i hc
      split at h
      · rename_i h128
        simp only [Option.some.injEq, Prod.mk.injEq] at h
        obtain ⟨rfl, rfl⟩ := h
        refine ⟨c.toNat, rfl, ?_, fun h0 => ?_, by omega⟩
        · rw [show i + 1 - i = 1 by omega, seven_lt h128]
          simp
        · rcases Nat.eq_zero_or_pos i with h | h
          · exact h
          · exact absurd (.inr (.inr ⟨h0, h⟩)) hc
      · obtain ⟨m, h1, h2, h3, h4⟩ := rdU_inv r (i + 1) _ n k h
        have hm : m ≠ 0 := fun h => by have := h3 h; omega
        refine ⟨c.toNat % 128 + m * 128, ?_, ?_, fun h => by omega, by omega⟩
        · rw [h1, Nat.add_mul, Nat.pow_succ, Nat.mul_assoc, Nat.mul_comm 128 (128 ^ i), Nat.add_assoc]
        · rw [show k - i = (k - (i + 1)) + 1 by omega, List.take_succ_cons, h2, seven_ge (n := c.toNat % 128 + m * 128) (by omega)]
          congr 1
          · rw [show (c.toNat % 128 + m * 128) % 128 + 128 = c.toNat by omega]
            simp
          · congr 1; omega
theorem readU_inv {s : List UInt8} {n k : Nat} (h : readU s = some (n, k)) : s.take k = seven n ∧ k = (seven n).length := by
  obtain ⟨m, h1, h2, _, _⟩ := rdU_inv s 0 0 n k h
  rw [Nat.pow_zero, Nat.mul_one, Nat.zero_add] at h1
  subst h1
  have hk := readU_lt h
  refine ⟨h2, ?_⟩
  have := congrArg List.length h2
  rw [List.length_take] at this
  omega
theorem zig_unzig (u : Nat) : zig (unzig u) = u := by
  unfold unzig zig
  split <;> split <;> omega
theorem readV_inv {s : List UInt8} {n : Int} {k : Nat} (h : readV s = some (n, k)) : s.take k = seven (zig n) ∧ k = (seven (zig n)).length := by
  unfold readV at h
  cases hu : readU s with
  | none => rw [hu] at h; cases h
  | some x =>
    obtain ⟨u, k'⟩ := x
    rw [hu] at h
    simp only [Option.map_some, Option.some.injEq, Prod.mk.injEq] at h
    obtain ⟨rfl, rfl⟩ := h
    rw [zig_unzig]
    exact readU_inv hu
theorem readT_inv {s t : List UInt8} {k : Nat} (h : readT s = some (t, k)) : s.take k = textOf t ∧ k = (textOf t).length ∧ t.length ≤ 200000 ∧ k ≤ s.length := by
  unfold readT at h
  cases hu : readU s with
  | none => rw [hu] at h; cases h
  | some x =>
    obtain ⟨n, k'⟩ := x
    rw [hu] at h
    simp only at h
    split at h
    · rename_i hc
      simp only [Option.some.injEq, Prod.mk.injEq] at h
      obtain ⟨rfl, rfl⟩ := h
      obtain ⟨h1, h2⟩ := readU_inv hu
      have hl : ((s.drop k').take n).length = n := by rw [List.length_take, List.length_drop]; omega
      unfold textOf
      rw [hl]
      refine ⟨?_, ?_, hc.1, hc.2⟩
      · rw [List.take_add, h1]
      · rw [List.length_append, hl, ← h2]
    · cases h
/-- a text that is read, in two parts -/
theorem readT_split {s t : List UInt8} {k : Nat} (h : readT s = some (t, k)) : s = textOf t ++ s.drop k := by
  obtain ⟨h1, _⟩ := readT_inv h
  rw [← h1, List.take_append_drop]
end Go.Proofs.YthfljcpfcnddhaaGreatDoor
