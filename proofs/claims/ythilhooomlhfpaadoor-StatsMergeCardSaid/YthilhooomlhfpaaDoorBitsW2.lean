/- Lists of numbers that came in; the walks of bitrun.check, pack, Pack. -/
import Derived.Test.YthilhooomlhfpaaDoorBitsW1
import Derived.Test.YthilhooomlhfpaaDoorEnv
namespace Go.Proofs.YthilhooomlhfpaaDoor
open Go Go.RowKit Go.ChangeShapes

/-- v is a slice of these numbers -/
def IsNums (K : IntKind) (w : World) (v : Value) (l : List Int) : Prop :=
  (l = [] ∧ ∃ ad cap, v = .slice ad 0 cap) ∨ (∃ b off cap, v = .slice (some ⟨b, off, none⟩) l.length cap ∧ b < w.heap.size ∧ ∀ j x, l[j]? = some x → w.cell? ⟨b, off + j, none⟩ = some (.int K x))
/-- .. of Go's ints -/
abbrev IsInts := IsNums .i64
/-- such numbers as an int holds -/
def Fits (l : List Int) : Prop := l.length ≤ maxLen ∧ ∀ x ∈ l, -9223372036854775808 ≤ x ∧ x < 9223372036854775808
theorem IsNums.below {K : IntKind} {w w' : World} {v : Value} {l : List Int} {B : Nat} (h : IsNums K w v l) (hb : Below B w w') (hB : w.heap.size ≤ B) : IsNums K w' v l := by
  rcases h with h | ⟨b, off, cap, rfl, hlt, hc⟩
  · exact .inl h
  · exact .inr ⟨b, off, cap, rfl, by have := hb.size; omega, fun j x hj => (hb.cell (p := ⟨b, off + j, none⟩) (by show b < B; omega)).trans (hc j x hj)⟩
theorem IsNums.form {K : IntKind} {w : World} {v : Value} {l : List Int} (h : IsNums K w v l) : ∃ ad cap, v = .slice ad l.length cap := by
  rcases h with ⟨rfl, h⟩ | ⟨b, off, cap, rfl, _⟩
  · exact h
  · exact ⟨_, _, rfl⟩
theorem IsNums.at {K : IntKind} {w : World} {ad : Option Addr} {n cap : Nat} {l : List Int} (h : IsNums K w (.slice ad n cap) l) (hl : 0 < l.length) :
    ∃ b off, ad = some ⟨b, off, none⟩ ∧ n = l.length ∧ b < w.heap.size ∧ ∀ j x, l[j]? = some x → w.cell? ⟨b, off + j, none⟩ = some (.int K x) := by
  rcases h with ⟨rfl, _⟩ | ⟨b, off, cap', he, hlt, hc⟩
  · simp at hl
  · injection he with e1 e2 e3
    exact ⟨b, off, e1, e2, hlt, hc⟩
/-- a row of the call's own is one -/
theorem IsNums.of_own {K : IntKind} {w : World} {B : Nat} {e : TypeId} {v : Value} {l : List Int} (h : w.ownsRow B e 1 v l.length (l.map fun x => .int K x)) : IsNums K w v l := by
  rcases h.2 with ⟨rfl, h0⟩ | ⟨g, cap, cur, rfl, _, hg, _, _, _, _⟩
  · exact .inl ⟨List.eq_nil_of_length_eq_zero h0, none, 0, rfl⟩
  · refine .inr ⟨g, 0, cap, rfl, (Array.getElem?_eq_some_iff.1 hg).1, fun j x hj => ?_⟩
    have hlt : j < l.length := (List.getElem?_eq_some_iff.1 hj).1
    have := h.cellAt j (by omega)
    rw [Nat.zero_add, this]
    simp [hj]

/-- the number fits in so many bits -/
def Good (wd : Nat) (x : Int) : Prop := 0 ≤ x ∧ x < 2 ^ wd

set_option maxRecDepth 100000 in
set_option maxHeartbeats 1000000 in
theorem check_bound (v : Value) (l : List Int) (wd : Int) (w : World) (a : Addr) (hI : IsInts w v l) (hE : w.cell? ⟨2, 0, none⟩ = some (.iface 232 (.pointer (some a))))
    (h : wd < 0 ∨ 32 < wd ∨ 20000 < l.length) :
    Calls Tryd.prog 125 #[v, .int .i64 wd] w fun e w' => e = .returned (.iface 232 (.pointer (some a))) ∧ Below w.heap.size w w' := by
  obtain ⟨ad, cap, rfl⟩ := hI.form
  by_cases h1 : wd < 0
  · have d1 : decide (wd < 0) = true := by simpa using h1
    go_enter Tryd.func125, Tryd.ntmps125
    go_wp2
    go_ret
    exact ⟨rfl, Below.refl _ _⟩
  · have d1 : decide (wd < 0) = false := by simpa using h1
    by_cases h2 : 32 < wd
    · have d2 : decide (32 < wd) = true := by simpa using h2
      go_enter Tryd.func125, Tryd.ntmps125
      go_wp2
      go_ret
      exact ⟨rfl, Below.refl _ _⟩
    · have d2 : decide (32 < wd) = false := by simpa using h2
      have d3 : decide ((20000 : Int) < (l.length : Int)) = true := by simp; omega
      go_enter Tryd.func125, Tryd.ntmps125
      go_wp2
      go_ret
      exact ⟨rfl, Below.refl _ _⟩

set_option maxRecDepth 100000 in
set_option maxHeartbeats 1000000 in
theorem check_ok (v : Value) (l : List Int) (wd : Nat) (w : World) (hI : IsInts w v l) (h1 : wd ≤ 32) (h2 : l.length ≤ 20000) (hg : ∀ x ∈ l, Good wd x) :
    Calls Tryd.prog 125 #[v, .int .i64 (wd : Nat)] w fun e w' => e = .returned .nilIface ∧ Below w.heap.size w w' := by
  obtain ⟨ad, cap, rfl⟩ := hI.form
  have d2 : decide ((32 : Int) < (wd : Int)) = false := by simp; omega
  have d3 : decide ((20000 : Int) < (l.length : Int)) = false := by simp; omega
  go_enter Tryd.func125, Tryd.ntmps125
  go_wp2
  go_loop [21] (fun i => ∃ k : Nat, k ≤ l.length ∧ i = .int .i64 k) (fun i => l.length - (intOf i).toNat)
  case atStart => exact ⟨0, Nat.zero_le _, rfl⟩
  case round =>
    obtain ⟨k, hk, rfl⟩ := hrel
    by_cases hlt : k < l.length
    · obtain ⟨b, off, rfl, _, _, hc⟩ := hI.at (by omega)
      have hck := hc k l[k] (List.getElem?_eq_getElem hlt)
      obtain ⟨g1, g2⟩ := hg l[k] (List.getElem_mem hlt)
      generalize l[k] = x at *
      have d4 : decide (x < 0) = false := by simpa using g1
      have d5 : decide ((0 : Int) < x / 2 ^ wd) = false := by
        rw [Int.ediv_eq_zero_of_lt g1 g2]; rfl
      clear g1 g2 hc hg
      go_wp2
      go_round
      case rel => exact ⟨k + 1, by omega, by go_num⟩
      case measure => simp [intOf]; omega
    · go_wp2
      go_ret
      exact ⟨rfl, Below.refl _ _⟩

set_option maxRecDepth 100000 in
set_option maxHeartbeats 1000000 in
theorem check_bad (v : Value) (l : List Int) (wd i : Nat) (x : Int) (w : World) (adr : Nat → Addr) (hE : w.cell? ⟨3, 0, none⟩ = some (.iface 232 (.pointer (some (adr 3))))) (hI : IsInts w v l) (h1 : wd ≤ 32) (h2 : l.length ≤ 20000) (hi : i < l.length) (hx : l[i]? = some x) (hf : -9223372036854775808 ≤ x ∧ x < 9223372036854775808)
    (hg : ∀ j y, j < i → l[j]? = some y → Good wd y) (hb : ¬ Good wd x) :
    Calls Tryd.prog 125 #[v, .int .i64 (wd : Nat)] w fun e w' => (∃ u, e = .returned u ∧ IsErr w' adr (.fault 3 i) u) ∧ Below w.heap.size w w' := by
  obtain ⟨ad, cap, rfl⟩ := hI.form
  have d2 : decide ((32 : Int) < (wd : Int)) = false := by simp; omega
  have d3 : decide ((20000 : Int) < (l.length : Int)) = false := by simp; omega
  obtain ⟨b, off, rfl, _, _, hc⟩ := hI.at (by omega)
  have hcx := hc i x hx
  have e3 := hE
  go_enter Tryd.func125, Tryd.ntmps125
  go_wp2
  go_loop [21] (fun j => ∃ k : Nat, k ≤ i ∧ j = .int .i64 k) (fun j => i - (intOf j).toNat)
  case atStart => exact ⟨0, Nat.zero_le _, rfl⟩
  case round =>
    obtain ⟨k, hk, rfl⟩ := hrel
    have hlt : k < l.length := by omega
    by_cases hki : k < i
    · have hck := hc k l[k] (List.getElem?_eq_getElem hlt)
      obtain ⟨g1, g2⟩ := hg k l[k] hki (List.getElem?_eq_getElem hlt)
      generalize l[k] = y at *
      have d4 : decide (y < 0) = false := by simpa using g1
      have d5 : decide ((0 : Int) < y / 2 ^ wd) = false := by
        rw [Int.ediv_eq_zero_of_lt g1 g2]; rfl
      clear g1 g2 hc hg hcx
      go_wp2
      go_round
      case rel => exact ⟨k + 1, by omega, by go_num⟩
      case measure => simp [intOf]; omega
    · obtain rfl : k = i := by omega
      clear hc hg
      by_cases hneg : x < 0
      · have d4 : decide (x < 0) = true := by simpa using hneg
        go_wp2
        go_ret
        exact ⟨⟨_, rfl, by decide, by decide, _, rfl, by rw [World.cell?_alloc_at _ _ _ _ rfl]; rfl, by rw [World.cell?_alloc_at _ _ _ _ rfl]; rfl⟩, (Below.refl _ _).alloc (Nat.le_refl _) _⟩
      · have d4 : decide (x < 0) = false := by simpa using hneg
        have d5 : decide ((0 : Int) < x / 2 ^ wd) = true := by
          rw [decide_eq_true_iff]
          have hge : (2 : Int) ^ wd ≤ x := by
            unfold Good at hb; omega
          have := Int.ediv_le_ediv (c := (2 : Int) ^ wd) (by exact Int.pow_pos (by decide)) hge
          rw [Int.ediv_self (by exact Int.ne_of_gt (Int.pow_pos (by decide)))] at this
          omega
        go_wp2
        go_ret
        exact ⟨⟨_, rfl, by decide, by decide, _, rfl, by rw [World.cell?_alloc_at _ _ _ _ rfl]; rfl, by rw [World.cell?_alloc_at _ _ _ _ rfl]; rfl⟩, (Below.refl _ _).alloc (Nat.le_refl _) _⟩

/-- what is in the text of packed numbers, told of Int's -/
def nats (l : List Int) : List Nat := l.map Int.toNat

theorem info_bits : (Tryd.prog.info? 222).map (fun i => i.zero) = some (some (.agg #[.slice none 0 0, .int .i64 0])) := by kernel_rfl

set_option maxRecDepth 100000 in
set_option maxHeartbeats 1000000 in
theorem pack_any (v : Value) (l : List Int) (wd : Nat) (w : World) (hI : IsInts w v l) (h1 : wd ≤ 32) (h2 : l.length ≤ 20000) (hg : ∀ x ∈ l, Good wd x) :
    Calls Tryd.prog 127 #[v, .int .i64 (wd : Nat)] w fun e w' => e = .returned (.string ⟨(packed wd (nats l)).toArray⟩) ∧ Below w.heap.size w w' := by
  obtain ⟨ad, cap, rfl⟩ := hI.form
  have hz : BitsAt w.heap.size w.heap.size 0 0 (w.alloc (.cells #[.slice none 0 0, .int .i64 0] 222)) := ⟨Nat.le_refl _, .slice none 0 0, heap_alloc_new w _, World.ownsRow_nil _ _ _ _⟩
  go_enter Tryd.func127, Tryd.ntmps127
  go_wp2_with fail
  go_loopw [7, 10] (fun _ i wr => ∃ k : Nat, k ≤ l.length ∧ i = .int .i64 k ∧ BitsAt w.heap.size w.heap.size (k * wd) (packN wd (nats (l.take k))) wr ∧ packN wd (nats (l.take k)) < 2 ^ (k * wd) ∧ Below w.heap.size w wr) (fun _ i _ => l.length - (intOf i).toNat)
  case atStart =>
    refine ⟨0, Nat.zero_le _, rfl, ?_, ?_, (Below.refl _ _).alloc (Nat.le_refl _) _⟩
    · simpa [nats, packN] using hz
    · simp [nats, packN]
  case round =>
    obtain ⟨k, hk, rfl, hat, hV, hb⟩ := hrel
    clear hz
    have hI1 := hI.below hb (Nat.le_refl _)
    by_cases hlt : k < l.length
    · obtain ⟨b, off, rfl, _, _, hc⟩ := hI1.at (by omega)
      have hck := hc k l[k] (List.getElem?_eq_getElem hlt)
      obtain ⟨g1, g2⟩ := hg l[k] (List.getElem_mem hlt)
      have hn : nats (l.take (k + 1)) = nats (l.take k) ++ [l[k].toNat] := by
        rw [List.take_succ_eq_append_getElem hlt, nats, List.map_append]; rfl
      have hln : (nats (l.take k)).length = k := by simp [nats]; omega
      have hp := packN_snoc wd l[k].toNat (nats (l.take k))
      rw [← hn, hln] at hp
      generalize l[k] = x at *
      obtain ⟨n, rfl⟩ := Int.eq_ofNat_of_zero_le g1
      have g3 : n < 2 ^ wd := by exact_mod_cast g2
      have g4 : n < 18446744073709551616 := Nat.lt_of_lt_of_le g3 (Nat.le_trans (Nat.pow_le_pow_right (by decide : 2 > 0) h1) (by decide))
      have hm : k * wd ≤ 1000000 := Nat.le_trans (Nat.mul_le_mul (show k ≤ 20000 by omega) h1) (by decide)
      rw [Int.toNat_natCast] at hp
      have Hp := Lib.hid hp
      clear g1 g2 hc hg hn hln hp
      go_wp2_with fail
      refine (put_any w.heap.size w.heap.size (k * wd) _ n wd wr hat hV g4 (by omega) (by omega) hb.size).mono ?_
      rintro e w1 ⟨rfl, hat1, hV1, hb1⟩
      rw [Nat.mod_eq_of_lt g3, ← Hp.out] at hat1 hV1
      go_wp2_with fail
      go_roundw
      case rel => exact ⟨k + 1, by omega, by go_num, by rw [Nat.add_one_mul]; exact hat1, by rw [Nat.add_one_mul]; exact hV1, hb.trans hb1⟩
      case measure => simp [intOf]; omega
    · obtain rfl : k = l.length := by omega
      rw [List.take_length] at hat hV
      go_wp2_with fail
      refine (text_bits _ _ _ _ _ hat).mono ?_
      rintro e w1 ⟨rfl, rfl⟩
      go_wp2
      go_ret
      refine ⟨?_, hb⟩
      have hl : (nats l).length = l.length := by simp [nats]
      unfold packed
      rw [hl]
      rfl

end Go.Proofs.YthilhooomlhfpaaDoor
