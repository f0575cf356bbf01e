/- The walks of bitrun.number and of the closure in bitrun.Runs. -/
import Derived.Test.YtddefnnimbjnaaaDoorBitsW6
import Derived.Test.YtddefnnimbjnaaaDoorBuild
import Derived.Test.YtddefnnimbjnaaaDoorRuns1
import Derived.Deep.RegionHeld3
namespace Go.Proofs.YtddefnnimbjnaaaDoor
set_option linter.unusedVariables false
open Go Go.RowKit Go.ChangeShapes

set_option maxRecDepth 100000 in
set_option maxHeartbeats 1000000 in
theorem number_any (n wd : Nat) (hw : wd ≤ 32) (hn : n < 2 ^ wd) (w : World) :
    Calls Tryd.prog 94 #[.int .i64 (n : Nat), .int .i64 (wd : Nat)] w fun e w' => e = .returned (.string ⟨(little (sizeB wd) n).toArray⟩) ∧ Below w.heap.size w w' := by
  have hsz : sizeB wd ≤ 4 := by unfold sizeB; omega
  have hn32 : n < 4294967297 := Nat.lt_of_lt_of_le hn (Nat.le_trans (Nat.pow_le_pow_right (by decide : 2 > 0) hw) (by decide))
  have hs1 : ∀ w1, Calls Tryd.prog 97 #[.int .i64 1, .int .i64 (wd : Nat)] w1 fun e w' => e = .returned (.int .i64 ((sizeB wd : Nat) : Int)) ∧ w' = w1 := by
    intro w1
    refine (size_any 1 wd (by omega) hw w1).mono ?_
    rintro e w2 ⟨rfl, rfl⟩
    exact ⟨by rw [Nat.one_mul]; rfl, rfl⟩
  have hfit : n < 256 ^ (max 1 (sizeB wd)) := by
    rw [← pow256]
    exact Nat.lt_of_lt_of_le hn (Nat.pow_le_pow_right (by decide) (by unfold sizeB; omega))
  have hmax : max (1 : Int) ((sizeB wd : Nat) : Int) = ((max 1 (sizeB wd) : Nat) : Int) := by omega
  have hc : IntKind.u64.wrap ((n : Nat) : Int) = ((n : Nat) : Int) := by rw [IntKind.wrap_u64]; omega
  have hle : sizeB wd ≤ max 1 (sizeB wd) := by omega
  have hm1 : 1 ≤ max 1 (sizeB wd) := by omega
  have hm8 : max 1 (sizeB wd) ≤ 8 := by omega
  have htk : (little (max 1 (sizeB wd)) n).take (sizeB wd) = little (sizeB wd) n := by
    rcases Nat.eq_zero_or_pos (sizeB wd) with h | h
    · rw [h]; rfl
    · rw [show max 1 (sizeB wd) = sizeB wd by omega, List.take_of_length_le (by rw [little_len]; omega)]
  clear hn
  generalize sizeB wd = z at *
  generalize hmm : max 1 z = m at *
  have hll := little_len m n
  have Hll := Lib.hid hll; clear hll
  have Hmm := Lib.hid hmm; clear hmm
  go_enter Tryd.func94, Tryd.ntmps94
  go_wp2_with fail
  refine (hs1 _).mono ?_; rintro e w1 ⟨rfl, rfl⟩
  go_wp2_with fail
  refine (fixed_ok n m _ (by omega) hm1 hm8 hfit).mono ?_; rintro e w1 ⟨rfl, hb1⟩
  go_wp2_with fail
  refine (hs1 _).mono ?_; rintro e w2 ⟨rfl, rfl⟩
  have hsize : (ByteArray.mk (little m n).toArray).size = m := by show (little m n).toArray.size = _; simp [Hll.out]
  go_wp2_with fail
  go_ret
  refine ⟨ret_of ?_, hb1⟩
  rw [ba_extract]
  simp only [List.drop_zero, Nat.sub_zero]
  rw [← htk]
  rfl

/-- the row of open numbers, in a variable of its own -/
def OpenAt (B o : Nat) (l : List Nat) (w : World) : Prop := B ≤ o ∧ ∃ v, w.heap[o]? = some (.cells #[v] 99 (0, 0)) ∧ w.ownsRow B 3 1 v l.length (l.map natV) ∧ v.ownBlock ≠ some o

theorem ints_good (wd : Nat) (l : List Nat) (h : ∀ x ∈ l, x < 2 ^ wd) : ∀ x ∈ ints l, Good wd x := by
  intro x hx
  obtain ⟨n, hn, rfl⟩ := List.mem_map.1 hx
  have := h n hn
  exact ⟨by omega, by exact_mod_cast this⟩
theorem nats_of_ints (l : List Nat) : nats (ints l) = l := by
  unfold nats ints
  rw [List.map_map]
  conv => rhs; rw [← List.map_id l]
  exact List.map_congr_left (fun x _ => by simp)
theorem OpenAt.kept {B o : Nat} {l : List Nat} {w w' : World} {e : TypeId} {b : Option Nat} (h : OpenAt B o l w) (hk : Lib.OthersKept e b w w') (he : e ≠ 99) (he2 : e ≠ 3)
    (hob : ∀ k cs fz T, w.heap[k]? = some (.cells cs T fz) → (T = 99 ∨ T = 3) → some k ≠ b) : OpenAt B o l w' := by
  obtain ⟨hB, v, hbk, hown, hne⟩ := h
  refine ⟨hB, v, hk _ _ hbk (hob _ _ _ _ hbk (.inl rfl)) (fun c fz hc => he (by injection hc with _ h2 _; exact h2.symm)), ⟨hown.1, ?_⟩, hne⟩
  rcases hown.2 with h1 | ⟨g, cap, cur, hv, h1, h2, h3⟩
  · exact .inl h1
  · exact .inr ⟨g, cap, cur, hv, h1, hk _ _ h2 (hob _ _ _ _ h2 (.inr rfl)) (fun c fz hc => he2 (by injection hc with _ h2 _; exact h2.symm)), h3⟩
theorem OpenAt.below {B o : Nat} {l : List Nat} {w w' : World} (h : OpenAt B o l w) (hb : Below w.heap.size w w') : OpenAt B o l w' :=
  h.kept (e := 5) (b := none) (others_of_below hb) (by decide) (by decide) (fun _ _ _ _ _ _ => by simp)
/-- a builder's block is none of numbers -/
theorem BuildAt.block {B b : Nat} {l : List UInt8} {w : World} (h : BuildAt B b l w) : B ≤ b ∧ ∃ p v, w.heap[b]? = some (.cells #[p, v] 78 (0, 0)) := by
  rcases h with ⟨hB, v, hb, _⟩ | ⟨hB, v, hb, _⟩ <;> exact ⟨hB, _, v, hb⟩
theorem BuildAt.ne {B b k : Nat} {l : List UInt8} {w : World} {cs : Array Value} {T : TypeId} {fz : Nat × Nat} (h : BuildAt B b l w) (hk : w.heap[k]? = some (.cells cs T fz)) (hT : T = 99 ∨ T = 3) : some k ≠ some b := by
  obtain ⟨_, p, v, hbk⟩ := h.block
  intro hkb
  injection hkb with hkb
  subst hkb
  rw [hbk] at hk
  injection hk with hk
  injection hk with _ h2 _
  subst h2
  revert hT
  decide
theorem OpenAt.written {B o b : Nat} {l : List Nat} {t : List UInt8} {w w' : World} (h : OpenAt B o l w) (hb : BuildAt B b t w) (hk : Lib.OthersKept 5 (some b) w w') : OpenAt B o l w' := by
  exact h.kept hk (by decide) (by decide) fun k cs fz T hh hT => hb.ne hh hT

set_option maxRecDepth 100000 in
set_option maxHeartbeats 4000000 in
/-- the closure of Runs: what stands open is written, if there is any -/
theorem shut_any (B b o p wd : Nat) (l : List UInt8) (op : List Nat) (w : World) (hb : BuildAt B b l w) (ho : OpenAt B o op w) (hw : w.cell? ⟨p, 0, none⟩ = some (.int .i64 (wd : Nat))) (hp : p < B) (hB : B ≤ w.heap.size) (h1 : wd ≤ 32) (h2 : op.length ≤ 1100) (h8 : op.length % 8 = 0)
    (hg : ∀ x ∈ op, x < 2 ^ wd) (hl : l.length ≤ 1000000) :
    Calls Tryd.prog 92 #[.pointer (some ⟨o, 0, none⟩), .pointer (some ⟨b, 0, none⟩), .pointer (some ⟨p, 0, none⟩)] w fun e w' => e = .returned (.tuple #[]) ∧ BuildAt B b (l ++ flush wd op) w' ∧ OpenAt B o [] w' ∧ Below B w w' := by
  obtain ⟨hBo, v, hbk, hown, hne⟩ := ho
  have c0 : w.cell? ⟨o, 0, none⟩ = some v := by rw [Lib.cell_of_heap hbk]; rfl
  have f0 : w.frozen? ⟨o, 0, none⟩ = false := Lib.frozen_of_heap hbk 0
  have hI := nums_nat hown
  by_cases h0 : op = []
  · subst h0
    obtain ⟨ad, cap, rfl⟩ := hI.form
    go_enter Tryd.func92, Tryd.ntmps92
    go_wp2_with fail
    go_end0
    exact ⟨rfl, by simpa [flush_nil] using hb, ⟨hBo, _, hbk, hown, hne⟩, Below.refl _ _⟩
  · have hpos : 0 < op.length := List.length_pos_iff.2 h0
    obtain ⟨ad, cap, rfl⟩ := hI.form
    have hil : (ints op).length = op.length := by simp [ints]
    have hgi := ints_good wd op hg
    have hni := nats_of_ints op
    have hfl := flush_cons wd h0
    have hw2 : w.drew.heap.size = w.heap.size := rfl
    clear hil
    have hil : (ints op).length = op.length := by simp [ints]
    rw [hil] at c0 hbk hown hne hI
    clear hil hw2
    have dpos : decide ((0 : Int) < (op.length : Int)) = true := by simp; omega
    obtain ⟨q, hq⟩ : ∃ q, op.length = 8 * q := ⟨op.length / 8, by omega⟩
    rw [show op.length / 8 = q by omega] at hfl
    have Hq := Lib.hid hq
    clear hq
    have hor : bits .or .u64 (IntKind.u64.wrap (IntKind.u64.wrap (IntKind.i64.wrap ((op.length : Int) / 8)) * 2)) 1 = ((2 * q + 1 : Nat) : Int) := by
      have hq8 := Hq.out
      have e1 : ((op.length : Int) / 8) = ((q : Nat) : Int) := by omega
      have e2 : IntKind.i64.wrap ((q : Nat) : Int) = ((q : Nat) : Int) := wrap_small _ (by omega) (by omega)
      have e3 : IntKind.u64.wrap ((q : Nat) : Int) = ((q : Nat) : Int) := by rw [IntKind.wrap_u64]; omega
      have e4 : IntKind.u64.wrap (((q : Nat) : Int) * 2) = ((2 * q : Nat) : Int) := by rw [IntKind.wrap_u64]; omega
      rw [e1, e2, e3, e4, show (1 : Int) = ((1 : Nat) : Int) from rfl, u64_or_nat _ _ (by omega) (by decide)]
      have h2 := Nat.two_pow_add_eq_or_of_lt (i := 1) (b := 1) (by decide) q
      rw [Nat.pow_one] at h2
      rw [← h2]
    have Hor := Lib.hid hor
    clear hor
    have hs7 := seven_len (show 2 * q + 1 < 18446744073709551616 by have := Hq.out; omega)
    have hpl : (packed wd op).length ≤ 4 * op.length + 1 := by
      rw [packed, bytesOf_len]
      have : op.length * wd ≤ op.length * 32 := Nat.mul_le_mul_left _ h1
      omega
    have hU : ∀ w1, Calls Tryd.prog 52 #[.int .u64 ((2 * q + 1 : Nat) : Int)] w1 fun e w' => e = .returned (.string ⟨(seven (2 * q + 1)).toArray⟩) ∧ Below w1.heap.size w1 w' := fun w1 => uvarint_any _ _ (by omega) (by have := Hq.out; omega)
    have hP : ∀ w1, Below w.heap.size w w1 → Calls Tryd.prog 93 #[.slice ad op.length cap, .int .i64 (wd : Nat)] w1 fun e w' => e = .returned (.string ⟨(packed wd op).toArray⟩) ∧ Below w1.heap.size w1 w' := by
      intro w1 hb1
      have := pack_any _ (ints op) wd w1 (hI.below hb1 (Nat.le_refl _)) h1 (by simp [ints]; omega) hgi
      rwa [hni] at this
    rw [hfl]
    clear hfl hni hgi hg
    generalize seven (2 * q + 1) = s7 at *
    generalize packed wd op = pk at *
    have HB := Lib.hid hb
    have Hbk := Lib.hid hbk
    have HO := Lib.hid (show OpenAt B o op w from ⟨hBo, _, hbk, hown, hne⟩)
    have HU := Lib.hid hU
    have HP := Lib.hid hP
    clear hb hown hne hbk hU hP hI
    have hlt : o < w.heap.size := by
      obtain ⟨_, _, h, _⟩ := HO.out
      exact (Array.getElem?_eq_some_iff.1 h).1
    have hdr : w.heap.size = w.drew.heap.size := rfl
    have hadd : ¬ 9223372036854775807 < s7.length + pk.length := by omega
    go_enter Tryd.func92, Tryd.ntmps92
    go_wp2_with fail
    go_region_held3 (fun w' => w'.cell? ⟨o, 0, none⟩ = some (.slice ad op.length cap) ∧ w'.cell? ⟨p, 0, none⟩ = some (.int .i64 (wd : Nat)))
      (first | exact ⟨c0, hw⟩ | exact ⟨c01, hw1⟩ | exact ⟨c02, hw2⟩ | exact ⟨c03, hw3⟩)
      (first
      | (go_at_call 52; rw [Hor.out]; refine (HU.out _).mono ?_; rintro e w1 ⟨rfl, hb1⟩
         have hb1 : Below w.heap.size w w1 := (Below.refl w.heap.size w).drew.trans (hb1.mono (Nat.le_of_eq hdr))
         have c01 : w1.cell? ⟨o, 0, none⟩ = some (.slice ad op.length cap) := (hb1.cell (p := ⟨o, 0, none⟩) hlt).trans c0
         have hw1 : w1.cell? ⟨p, 0, none⟩ = some (.int .i64 (wd : Nat)) := (hb1.cell (p := ⟨p, 0, none⟩) (Nat.lt_of_lt_of_le hp hB)).trans hw)
      | (go_at_call 93; refine (HP.out w1 hb1).mono ?_; rintro e w2 ⟨rfl, hb2⟩
         have hb2 := below_trans hb1 hb2
         have c02 : w2.cell? ⟨o, 0, none⟩ = some (.slice ad op.length cap) := (hb2.cell (p := ⟨o, 0, none⟩) hlt).trans c0
         have hw2 : w2.cell? ⟨p, 0, none⟩ = some (.int .i64 (wd : Nat)) := (hb2.cell (p := ⟨p, 0, none⟩) (Nat.lt_of_lt_of_le hp hB)).trans hw)
      | (go_at_call 51
         have hB2 := HB.out.below hb2
         rw [show (ByteArray.mk s7.toArray ++ ByteArray.mk pk.toArray) = ⟨(s7 ++ pk).toArray⟩ from ByteArray.mk_append_mk _ _]
         refine (writeString_any B b l (s7 ++ pk) w2 hB2 (by rw [List.length_append]; omega) (by have := hb2.size; omega)).mono ?_; rintro e w3 ⟨rfl, hB3, hb3, hk3⟩
         have hbk3 := hk3 o _ ((hb2.block o hlt).trans Hbk.out) (hB2.ne ((hb2.block o hlt).trans Hbk.out) (.inl rfl)) (fun c fz h => by injection h with _ h2 _; revert h2; decide)
         have c03 : w3.cell? ⟨o, 0, none⟩ = some (.slice ad op.length cap) := by rw [Lib.cell_of_heap hbk3]; rfl
         have f03 : w3.frozen? ⟨o, 0, none⟩ = false := Lib.frozen_of_heap hbk3 0
         have hw3 : w3.cell? ⟨p, 0, none⟩ = some (.int .i64 (wd : Nat)) := (hb3.cell (p := ⟨p, 0, none⟩) hp).trans hw2))
    go_wp2_with fail
    go_end0
    refine ⟨rfl, ?_, ?_, ?_⟩
    · refine hB3.kept (e := 3) (o := some o) ((Lib.OthersKept.refl _ _ _).setCell ⟨o, 0, none⟩ rfl _) (by decide) (by decide) ?_
      intro k cs fz T hh hT hko
      injection hko with hko
      subst hko
      rw [hbk3] at hh
      injection hh with hh
      injection hh with _ h2 _
      subst h2
      revert hT
      decide
    · exact ⟨hBo, .slice none 0 0, by rw [heap_setCell_same _ _ _ _ _ _ hbk3]; rfl, World.ownsRow_nil _ _ _ _, by simp [Value.ownBlock]⟩
    · exact ((hb2.mono hB).trans hb3).setCell (p := ⟨o, 0, none⟩) hBo _
end Go.Proofs.YtddefnnimbjnaaaDoor
