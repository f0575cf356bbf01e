/- General lemmas for walks, over any program: bytes in memory that the call owns, appended to one by one, read as a string. -/
import Derived.WalkKit
import Derived.WalkSpells
import Derived.WalkLawsBesides
import Derived.Lib.Hide
import Derived.Handy
namespace Go.Proofs.YthilhooomlhfpaaDoor
open Go Go.RowKit

/-- a byte as a cell -/
def byteV (b : UInt8) : Value := .int .u8 (b.toNat : Int)
theorem byteV_one (b : UInt8) : (byteV b).oneCell' = true := rfl

theorem ret_of {v v' : Value} (h : v = v') : Ending.returned v = .returned v' := by rw [h]
theorem str_of {l l' : List UInt8} (h : l = l') : Value.string ⟨l.toArray⟩ = .string ⟨l'.toArray⟩ := by rw [h]

theorem one_map {α : Type} {f : α → Value} (hf : ∀ x, (f x).oneCell' = true) (l : List α) : ∀ u ∈ l.map f, u.oneCell' = true := by
  intro u hu
  obtain ⟨x, _, rfl⟩ := List.mem_map.1 hu
  exact hf x

/-- append of one one-cell element, the element having just been laid in a block of its own -/
theorem wpList_push {P : Program} {wr : World} {ops : Array Oper} {rest : List Oper} {o : Oper} {a : Act} {Q : Exit → Act → World → Prop} (hg : o.guard = none) (s x : Operand) (t : TypeId)
    (ho : o.op = .call { callee := .builtin .append, args := #[s, x], argTypes := #[t, t] })
    (base : Nat) (e : TypeId) (i : TypeInfo) (z : Value) (bytes : Nat) (ht : P.underlying t = some (.slice e)) (hi : P.info? e = some i) (hz : i.zero = some z)
    (hsize : i.size = 1) (hby : i.bytes = bytes) (hzs : z.cells.size = 1)
    {α : Type} (f : α → Value) (hf : ∀ y, (f y).oneCell' = true)
    (v : Value) (l : List α) (hs : a.eval s = v) (hown : wr.ownsRow base e 1 v l.length (l.map f)) (e' : TypeId) (u : Value) (hx : a.eval x = .slice (some ⟨wr.heap.size, 0, none⟩) 1 1)
    (h63 : l.length + 1 ≤ maxLen) (hbytes : (l.length + 1) * bytes ≤ 140737488355328) (hbase : base ≤ wr.heap.size) (y : α) (hu : u = f y)
    (h : ∀ v' w', w'.ownsRow base e 1 v' (l ++ [y]).length ((l ++ [y]).map f) → Below base wr w' → v' ≠ .slice none 0 0 → wpList P ops Q rest (a.put o.dst v') w') :
    wpList P ops Q (o :: rest) a (wr.alloc (.cells #[u] e')) := by
  subst hu
  refine wpList_append_own _ hg s x t ho base e i z 1 bytes ht hi hz hsize hby hzs (by omega) v l.length (l.map f) hs (hown.alloc _) ⟨wr.heap.size, 0, none⟩ 1 1 [f y] hx (by simp) ?_ ?_ h63 hbytes (by simp; omega) ?_
  · intro j u hj
    cases j with
    | zero => simp at hj; subst hj; simp [go_sem]
    | succ j => simp at hj
  · intro u hu; simp at hu; subst hu; exact hf y
  · intro v' w' h1 h2 h3
    refine h v' w' (by simpa using h1) ?_ (by rw [Ne, h3]; simp)
    refine (((Below.refl _ _).alloc hbase _).grown h2 (by simp; omega) ?_)
    intro k hk
    exact (hown.lt k hk).1

/-- string(b), b of the call's own -/
theorem run_own_string {P : Program} {w : World} {src dst e : TypeId} {base : Nat} {v : Value} {l : List UInt8}
    (hs : P.underlying src = some (.slice e)) (he : P.underlying e = some (.int .u8)) (hd : P.underlying dst = some .string)
    (hown : w.ownsRow base e 1 v l.length (l.map byteV)) : (convert src dst v).run P w = .ok (.string ⟨l.toArray⟩) w := by
  rcases hown.2 with ⟨rfl, hn⟩ | ⟨g, cap, cur, rfl, hr⟩
  · have : l = [] := List.eq_nil_of_length_eq_zero hn
    subst this
    rw [run_convert_bytes_string w src dst e none _ _ hs he hd]
    simp [Conv.bytesToString]
    rfl
  · refine run_convert_bytes_back w src dst e _ cap l hs he hd fun j hj => ?_
    have h2 := hown.cellAt j (by omega)
    rw [Addr.add_lit, Nat.zero_add, h2]
    simp [hj, byteV]

/-- string([]byte{b}) -/
theorem run_lit_string {P : Program} {src dst e : TypeId} (w : World) (n : Int) (hs : P.underlying src = some (.slice e)) (he : P.underlying e = some (.int .u8)) (hd : P.underlying dst = some .string)
    (h0 : 0 ≤ n) (h1 : n < 256) :
    (convert src dst (.slice (some ⟨w.heap.size, 0, none⟩) 1 1)).run P (w.alloc (.cells #[.int .u8 n] e)) = .ok (.string ⟨#[UInt8.ofNat n.toNat]⟩) (w.alloc (.cells #[.int .u8 n] e)) := by
  have hb : (.int .u8 n : Value) = byteV (UInt8.ofNat n.toNat) := by
    unfold byteV
    rw [UInt8.toNat_ofNat', Nat.mod_eq_of_lt (by omega), Int.toNat_of_nonneg h0]
  rw [hb]
  exact run_own_string (base := 0) (l := [UInt8.ofNat n.toNat]) hs he hd (World.ownsRow_lit w #[byteV (UInt8.ofNat n.toNat)] 1 (Nat.zero_le _) (by decide) rfl)

theorem ba_extract (s : ByteArray) (a b : Nat) : s.extract a b = ⟨((s.data.toList.drop a).take (b - a)).toArray⟩ := by
  have h := ByteArray.extract_mk s.data.toList a b
  rwa [show (ByteArray.mk s.data.toList.toArray) = s by simp] at h
theorem ba_mk (s : ByteArray) : (ByteArray.mk s.data.toList.toArray) = s := by simp
theorem ba_append (s t : ByteArray) : s ++ t = ⟨(s.data.toList ++ t.data.toList).toArray⟩ := by
  rw [← ByteArray.mk_append_mk, ba_mk, ba_mk]

theorem below_of_eq {w w' : World} (h : w' = w) : Below w.heap.size w w' := h ▸ Below.refl _ _

/-- what was there when the call began is there behind it -/
theorem bcell {W w1 : World} {B : Nat} (hb : Below B W w1) : (∀ b o, b < B → w1.cell? ⟨b, o, none⟩ = W.cell? ⟨b, o, none⟩) ∧ (∀ b o, b < B → w1.frozen? ⟨b, o, none⟩ = W.frozen? ⟨b, o, none⟩) :=
  ⟨fun b o h => hb.cell (p := ⟨b, o, none⟩) h, fun b o h => hb.frozen (p := ⟨b, o, none⟩) h⟩
theorem below_trans {w w1 w2 : World} (h : Below w.heap.size w w1) (k : Below w1.heap.size w1 w2) : Below w.heap.size w w2 := h.trans (k.mono h.size)
end Go.Proofs.YthilhooomlhfpaaDoor
