/- plain.Code and the errors of package api: what stands for an error, and the number that Code tells of it. -/
import Derived.Test.YthilhooomlhfpaaDoorAs
import Derived.Test.YthilhooomlhfpaaDoorErrs
import Derived.Deep.QuietTactic
import Derived.BigQuiet
namespace Go.Proofs.YthilhooomlhfpaaDoor
open Go Go.RowKit Go.ChangeShapes

/-- the number of the variable of error k -/
def gErr : Nat → Nat
  | 1 => 1
  | 2 => 2
  | 3 => 3
  | 4 => 0
  | 5 => 4
  | 6 => 5
  | 7 => 6
  | _ => 7

/-- the world's errors: error k's variable holds the pointer adr k; no two are one; the type's handle lies in its variable -/
structure ErrEnv (w : World) (adr : Nat → Addr) : Prop where
  cell : ∀ k, 1 ≤ k → k ≤ 8 → w.cell? ⟨gErr k, 0, none⟩ = some (.iface 232 (.pointer (some (adr k))))
  blk : ∀ k, 1 ≤ k → k ≤ 8 → ∃ c t, w.heap[(adr k).block]? = some (.cells c t (0, 0))
  inj : ∀ j k, 1 ≤ j → j ≤ 8 → 1 ≤ k → k ≤ 8 → adr j = adr k → j = k
  handle : w.cell? ⟨8, 0, none⟩ = some (.iface 207 (.agg #[.pointer (some ⟨9, 38, none⟩)]))

theorem ErrEnv.below {w w' : World} {adr : Nat → Addr} (h : ErrEnv w adr) (hb : Below w.heap.size w w') : ErrEnv w' adr where
  cell k h1 h2 := (hb.cell (block_lt_of_cell (h.cell k h1 h2))).trans (h.cell k h1 h2)
  blk k h1 h2 := by
    obtain ⟨c, t, h3⟩ := h.blk k h1 h2
    exact ⟨c, t, (hb.block _ (Array.getElem?_eq_some_iff.1 h3).1).trans h3⟩
  inj := h.inj
  handle := (hb.cell (block_lt_of_cell h.handle)).trans h.handle

/-- an error: none; error k; error k with a place -/
inductive GErr where
  | nil
  | sent (k : Nat)
  | fault (k : Nat) (at_ : Int)
/-- v stands for it -/
def IsErr (w : World) (adr : Nat → Addr) : GErr → Value → Prop
  | .nil, v => v = .nilIface
  | .sent k, v => 1 ≤ k ∧ k ≤ 8 ∧ v = .iface 232 (.pointer (some (adr k)))
  | .fault k p, v => 1 ≤ k ∧ k ≤ 8 ∧ ∃ b, v = .iface 128 (.pointer (some ⟨b, 0, none⟩)) ∧ w.cell? ⟨b, 0, none⟩ = some (.int .i64 p) ∧ w.cell? ⟨b, 1, none⟩ = some (.iface 232 (.pointer (some (adr k))))
theorem IsErr.below {w w' : World} {adr : Nat → Addr} {e : GErr} {v : Value} (h : IsErr w adr e v) (hb : Below w.heap.size w w') : IsErr w' adr e v := by
  cases e with
  | nil => exact h
  | sent k => exact h
  | fault k p =>
    obtain ⟨h1, h2, b, h3, h4, h5⟩ := h
    exact ⟨h1, h2, b, h3, (hb.cell (block_lt_of_cell h4)).trans h4, (hb.cell (block_lt_of_cell h5)).trans h5⟩

/-- what Code tells -/
def GErr.code : GErr → Int
  | .nil => 0
  | .sent k => k
  | .fault k _ => k
def GErr.at' : GErr → Int
  | .nil => -1
  | .sent _ => -1
  | .fault _ p => p

theorem is_any {w : World} {adr : Nat → Addr} {e : GErr} {v : Value} {j : Nat} (hE : ErrEnv w adr) (he : IsErr w adr e v) (hn : e ≠ .nil) (h1 : 1 ≤ j) (h8 : j ≤ 8) :
    Calls Tryd.prog 81 #[v, .iface 232 (.pointer (some (adr j)))] w fun r w' => r = .returned (.bool (decide (e.code = (j : Int)))) ∧ w' = w := by
  cases e with
  | nil => exact absurd rfl hn
  | sent k =>
    obtain ⟨k1, k8, rfl⟩ := he
    by_cases hjk : k = j
    · subst hjk
      simpa [GErr.code] using is_same (adr k) w
    · obtain ⟨ca, ta, ha⟩ := hE.blk k k1 k8
      obtain ⟨cb, tb, hb⟩ := hE.blk j h1 h8
      have hd : decide (GErr.code (.sent k) = (j : Int)) = false := by rw [decide_eq_false_iff_not]; simp only [GErr.code]; omega
      rw [hd]
      exact is_other (adr k) (adr j) ca cb ta tb w (fun h => hjk (hE.inj _ _ k1 k8 h1 h8 h)) ha hb
  | fault k p =>
    obtain ⟨k1, k8, b, rfl, h4, h5⟩ := he
    by_cases hjk : k = j
    · subst hjk
      simpa [GErr.code] using is_fault_same b (adr k) w h5
    · obtain ⟨ca, ta, ha⟩ := hE.blk k k1 k8
      obtain ⟨cb, tb, hb⟩ := hE.blk j h1 h8
      have hd : decide (GErr.code (.fault k p) = (j : Int)) = false := by rw [decide_eq_false_iff_not]; simp only [GErr.code]; omega
      rw [hd]
      exact is_fault_other b (adr k) (adr j) ca cb ta tb w h5 (fun h => hjk (hE.inj _ _ k1 k8 h1 h8 h)) ha hb

set_option maxHeartbeats 400000 in
theorem code_nil (w : World) : Calls Tryd.prog 50 #[.nilIface] w fun e w' => e = .returned (.tuple #[.int .i64 0, .int .i64 (-1)]) ∧ Below w.heap.size w w' := by
  go_enter Tryd.func50, Tryd.ntmps50
  go_wp2
  go_ret2
  exact ⟨rfl, Below.refl _ _⟩

set_option maxRecDepth 100000 in
set_option maxHeartbeats 1000000 in
theorem code_sent (k : Nat) (w : World) (adr : Nat → Addr) (hE : ErrEnv w adr) (h1 : 1 ≤ k) (h8 : k ≤ 8) :
    Calls Tryd.prog 50 #[.iface 232 (.pointer (some (adr k)))] w fun e w' => e = .returned (.tuple #[.int .i64 (k : Int), .int .i64 (-1)]) ∧ Below w.heap.size w w' := by
  go_enter Tryd.func50, Tryd.ntmps50
  go_wp2_with fail
  refine (as_miss _ _ _ _ ((hE.below ((Below.refl _ _).alloc (Nat.le_refl _) _)).handle) (by simp [go_sem]; rfl)).mono ?_
  rintro e w1 ⟨rfl, hb1⟩
  have hb : Below w.heap.size w w1 := ((Below.refl w.heap.size w).alloc (Nat.le_refl _) _).trans (hb1.mono (by simp))
  clear hb1
  have hE1 := hE.below hb
  have e1 : w1.cell? ⟨1, 0, none⟩ = _ := hE1.cell 1 (by decide) (by decide)
  have e2 : w1.cell? ⟨2, 0, none⟩ = _ := hE1.cell 2 (by decide) (by decide)
  have e3 : w1.cell? ⟨3, 0, none⟩ = _ := hE1.cell 3 (by decide) (by decide)
  have e4 : w1.cell? ⟨0, 0, none⟩ = _ := hE1.cell 4 (by decide) (by decide)
  have e5 : w1.cell? ⟨4, 0, none⟩ = _ := hE1.cell 5 (by decide) (by decide)
  have e6 : w1.cell? ⟨5, 0, none⟩ = _ := hE1.cell 6 (by decide) (by decide)
  have e7 : w1.cell? ⟨6, 0, none⟩ = _ := hE1.cell 7 (by decide) (by decide)
  have e8 : w1.cell? ⟨7, 0, none⟩ = _ := hE1.cell 8 (by decide) (by decide)
  go_wp2_with fail
  clear e1 e2 e3 e4 e5 e6 e7 e8
  have hcells : ∀ i : Nat, i < 8 → (w1.alloc (.cells #[.iface 232 (.pointer (some (adr 1))), .iface 232 (.pointer (some (adr 2))), .iface 232 (.pointer (some (adr 3))), .iface 232 (.pointer (some (adr 4))), .iface 232 (.pointer (some (adr 5))), .iface 232 (.pointer (some (adr 6))), .iface 232 (.pointer (some (adr 7))), .iface 232 (.pointer (some (adr 8)))] 38)).cell? ⟨w1.heap.size, i, none⟩ = some (.iface 232 (.pointer (some (adr (i + 1))))) := by
    intro i hi
    rw [World.cell?_alloc_at _ _ _ _ rfl]
    match i, hi with
    | 0, _ => rfl
    | 1, _ => rfl
    | 2, _ => rfl
    | 3, _ => rfl
    | 4, _ => rfl
    | 5, _ => rfl
    | 6, _ => rfl
    | 7, _ => rfl
  have hE2 := hE1.below ((Below.refl _ _).alloc (Nat.le_refl _) (.cells #[.iface 232 (.pointer (some (adr 1))), .iface 232 (.pointer (some (adr 2))), .iface 232 (.pointer (some (adr 3))), .iface 232 (.pointer (some (adr 4))), .iface 232 (.pointer (some (adr 5))), .iface 232 (.pointer (some (adr 6))), .iface 232 (.pointer (some (adr 7))), .iface 232 (.pointer (some (adr 8)))] 38))
  have hb2 := hb.alloc hb.size (.cells #[.iface 232 (.pointer (some (adr 1))), .iface 232 (.pointer (some (adr 2))), .iface 232 (.pointer (some (adr 3))), .iface 232 (.pointer (some (adr 4))), .iface 232 (.pointer (some (adr 5))), .iface 232 (.pointer (some (adr 6))), .iface 232 (.pointer (some (adr 7))), .iface 232 (.pointer (some (adr 8)))] 38)

  generalize (w1.alloc (.cells #[.iface 232 (.pointer (some (adr 1))), .iface 232 (.pointer (some (adr 2))), .iface 232 (.pointer (some (adr 3))), .iface 232 (.pointer (some (adr 4))), .iface 232 (.pointer (some (adr 5))), .iface 232 (.pointer (some (adr 6))), .iface 232 (.pointer (some (adr 7))), .iface 232 (.pointer (some (adr 8)))] 38)) = w3 at *
  have HC := Lib.hid hcells; clear hcells
  have he : IsErr w3 adr (.sent k) (.iface 232 (.pointer (some (adr k)))) := ⟨h1, h8, rfl⟩
  go_loop [3, 26] (fun pv i => ∃ m : Nat, m ≤ 8 ∧ i = .int .i64 m ∧ m < k ∧ pv = .int .i64 (-1)) (fun _ i => 8 - (intOf i).toNat)
  case atStart => exact ⟨0, by omega, rfl, by omega, rfl⟩
  case round =>
    obtain ⟨m, hm, rfl, hmk, rfl⟩ := hrel
    have hlt : m < 8 := by omega
    have hc := HC.out m hlt
    by_cases hk : k = m + 1
    · have hd : decide (GErr.code (.sent k) = ((m + 1 : Nat) : Int)) = true := by rw [decide_eq_true_iff]; simp only [GErr.code]; omega
      have Hd := Lib.hid hd; have Hk := Lib.hid hk
      clear hd hk
      go_wp2_with fail
      refine (is_any (e := (.sent k)) (j := m + 1) hE2 he (by simp) (by omega) (by omega)).mono ?_
      rintro e w4 ⟨rfl, rfl⟩
      rw [Hd.out]
      go_wp2_with fail
      go_ret2
      exact ⟨by rw [Hk.out]; rfl, hb2⟩
    · have hd : decide (GErr.code (.sent k) = ((m + 1 : Nat) : Int)) = false := by rw [decide_eq_false_iff_not]; simp only [GErr.code]; omega
      have Hd := Lib.hid hd
      have hk2 : m + 1 < k := by omega
      clear hd hk
      go_wp2_with fail
      refine (is_any (e := (.sent k)) (j := m + 1) hE2 he (by simp) (by omega) (by omega)).mono ?_
      rintro e w4 ⟨rfl, rfl⟩
      rw [Hd.out]
      go_wp2_with fail
      go_round
      case rel => exact ⟨m + 1, by omega, by go_num, by omega, rfl⟩
      case measure => simp [intOf]; omega

theorem as_hit (e t : Addr) (old : Value) (w : World) (hg : w.cell? ⟨8, 0, none⟩ = some (.iface 207 (.agg #[.pointer (some ⟨9, 38, none⟩)]))) (ht0 : w.cell? t = some old) (hf0 : w.frozen? t = false) :
    Calls Tryd.prog 80 #[.iface 128 (.pointer (some e)), .iface 132 (.pointer (some t))] w fun ev w' => ev = .returned (.bool true) ∧ Below t.block w w' ∧ w'.cell? t = some (.pointer (some e)) := by
  refine (as_hit_world e t old w hg ht0 hf0).mono ?_
  have hlt := block_lt_of_cell ht0
  rintro ev w' ⟨h1, h2⟩
  refine ⟨h1, ?_, ?_⟩
  · rw [h2]
    exact (((((Below.refl _ _).alloc (by omega) _).alloc (by simp; omega) _).alloc (by simp; omega) _).alloc (by simp; omega) _).setCell (Nat.le_refl _) _
  · rw [h2]
    refine World.cell?_setCell_same (u := old) _ _ _ ?_
    rw [World.cell?_alloc_lt _ _ t (by simp; omega), World.cell?_alloc_lt _ _ t (by simp; omega), World.cell?_alloc_lt _ _ t (by simp; omega), World.cell?_alloc_lt _ _ t hlt]; exact ht0

set_option maxRecDepth 100000 in
set_option maxHeartbeats 1000000 in
theorem code_fault (k : Nat) (p : Int) (b : Nat) (w : World) (adr : Nat → Addr) (hE : ErrEnv w adr) (h1 : 1 ≤ k) (h8 : k ≤ 8)
    (hp : w.cell? ⟨b, 0, none⟩ = some (.int .i64 p)) (hs : w.cell? ⟨b, 1, none⟩ = some (.iface 232 (.pointer (some (adr k))))) :
    Calls Tryd.prog 50 #[.iface 128 (.pointer (some ⟨b, 0, none⟩))] w fun e w' => e = .returned (.tuple #[.int .i64 (k : Int), .int .i64 p]) ∧ Below w.heap.size w w' := by
  have hlt0 : b < w.heap.size := block_lt_of_cell hp
  have hF : IsErr w adr (.fault k p) (.iface 128 (.pointer (some ⟨b, 0, none⟩))) := ⟨h1, h8, b, rfl, hp, hs⟩
  have HP := Lib.hid hp; have HS := Lib.hid hs; clear hp hs
  go_enter Tryd.func50, Tryd.ntmps50
  go_wp2_with fail
  refine (as_hit _ ⟨w.heap.size, 0, none⟩ _ _ ((hE.below ((Below.refl _ _).alloc (Nat.le_refl _) _)).handle) (World.cell?_alloc_at _ _ _ _ rfl) (World.frozen?_alloc_at _ _ _ _ rfl)).mono ?_
  rintro e w2 ⟨rfl, hb1, ht⟩
  have hb : Below w.heap.size w w2 := ((Below.refl w.heap.size w).alloc (Nat.le_refl _) _).trans hb1
  have hF2 := hF.below hb
  have hp2 : w2.cell? ⟨b, 0, none⟩ = some (.int .i64 p) := (hb.cell hlt0).trans HP.out
  clear hb1
  have hE1 := hE.below hb
  have e1 : w2.cell? ⟨1, 0, none⟩ = _ := hE1.cell 1 (by decide) (by decide)
  have e2 : w2.cell? ⟨2, 0, none⟩ = _ := hE1.cell 2 (by decide) (by decide)
  have e3 : w2.cell? ⟨3, 0, none⟩ = _ := hE1.cell 3 (by decide) (by decide)
  have e4 : w2.cell? ⟨0, 0, none⟩ = _ := hE1.cell 4 (by decide) (by decide)
  have e5 : w2.cell? ⟨4, 0, none⟩ = _ := hE1.cell 5 (by decide) (by decide)
  have e6 : w2.cell? ⟨5, 0, none⟩ = _ := hE1.cell 6 (by decide) (by decide)
  have e7 : w2.cell? ⟨6, 0, none⟩ = _ := hE1.cell 7 (by decide) (by decide)
  have e8 : w2.cell? ⟨7, 0, none⟩ = _ := hE1.cell 8 (by decide) (by decide)
  go_wp2_with fail
  clear e1 e2 e3 e4 e5 e6 e7 e8
  have hcells : ∀ i : Nat, i < 8 → (w2.alloc (.cells #[.iface 232 (.pointer (some (adr 1))), .iface 232 (.pointer (some (adr 2))), .iface 232 (.pointer (some (adr 3))), .iface 232 (.pointer (some (adr 4))), .iface 232 (.pointer (some (adr 5))), .iface 232 (.pointer (some (adr 6))), .iface 232 (.pointer (some (adr 7))), .iface 232 (.pointer (some (adr 8)))] 38)).cell? ⟨w2.heap.size, i, none⟩ = some (.iface 232 (.pointer (some (adr (i + 1))))) := by
    intro i hi
    rw [World.cell?_alloc_at _ _ _ _ rfl]
    match i, hi with
    | 0, _ => rfl
    | 1, _ => rfl
    | 2, _ => rfl
    | 3, _ => rfl
    | 4, _ => rfl
    | 5, _ => rfl
    | 6, _ => rfl
    | 7, _ => rfl
  have hE2 := hE1.below ((Below.refl _ _).alloc (Nat.le_refl _) (.cells #[.iface 232 (.pointer (some (adr 1))), .iface 232 (.pointer (some (adr 2))), .iface 232 (.pointer (some (adr 3))), .iface 232 (.pointer (some (adr 4))), .iface 232 (.pointer (some (adr 5))), .iface 232 (.pointer (some (adr 6))), .iface 232 (.pointer (some (adr 7))), .iface 232 (.pointer (some (adr 8)))] 38))
  have hb2 := hb.alloc hb.size (.cells #[.iface 232 (.pointer (some (adr 1))), .iface 232 (.pointer (some (adr 2))), .iface 232 (.pointer (some (adr 3))), .iface 232 (.pointer (some (adr 4))), .iface 232 (.pointer (some (adr 5))), .iface 232 (.pointer (some (adr 6))), .iface 232 (.pointer (some (adr 7))), .iface 232 (.pointer (some (adr 8)))] 38)

  have hFault := hF2.below ((Below.refl _ _).alloc (Nat.le_refl _) (.cells #[.iface 232 (.pointer (some (adr 1))), .iface 232 (.pointer (some (adr 2))), .iface 232 (.pointer (some (adr 3))), .iface 232 (.pointer (some (adr 4))), .iface 232 (.pointer (some (adr 5))), .iface 232 (.pointer (some (adr 6))), .iface 232 (.pointer (some (adr 7))), .iface 232 (.pointer (some (adr 8)))] 38))
  generalize (w2.alloc (.cells #[.iface 232 (.pointer (some (adr 1))), .iface 232 (.pointer (some (adr 2))), .iface 232 (.pointer (some (adr 3))), .iface 232 (.pointer (some (adr 4))), .iface 232 (.pointer (some (adr 5))), .iface 232 (.pointer (some (adr 6))), .iface 232 (.pointer (some (adr 7))), .iface 232 (.pointer (some (adr 8)))] 38)) = w3 at *
  have HC := Lib.hid hcells; clear hcells
  have he : IsErr w3 adr (.fault k p) (.iface 128 (.pointer (some ⟨b, 0, none⟩))) := hFault
  go_loop [3, 26] (fun pv i => ∃ m : Nat, m ≤ 8 ∧ i = .int .i64 m ∧ m < k ∧ pv = .int .i64 p) (fun _ i => 8 - (intOf i).toNat)
  case atStart => exact ⟨0, by omega, rfl, by omega, rfl⟩
  case round =>
    obtain ⟨m, hm, rfl, hmk, rfl⟩ := hrel
    have hlt : m < 8 := by omega
    have hc := HC.out m hlt
    by_cases hk : k = m + 1
    · have hd : decide (GErr.code (.fault k p) = ((m + 1 : Nat) : Int)) = true := by rw [decide_eq_true_iff]; simp only [GErr.code]; omega
      have Hd := Lib.hid hd; have Hk := Lib.hid hk
      clear hd hk
      go_wp2_with fail
      refine (is_any (e := (.fault k p)) (j := m + 1) hE2 he (by simp) (by omega) (by omega)).mono ?_
      rintro e w4 ⟨rfl, rfl⟩
      rw [Hd.out]
      go_wp2_with fail
      go_ret2
      exact ⟨by rw [Hk.out]; rfl, hb2⟩
    · have hd : decide (GErr.code (.fault k p) = ((m + 1 : Nat) : Int)) = false := by rw [decide_eq_false_iff_not]; simp only [GErr.code]; omega
      have Hd := Lib.hid hd
      have hk2 : m + 1 < k := by omega
      clear hd hk
      go_wp2_with fail
      refine (is_any (e := (.fault k p)) (j := m + 1) hE2 he (by simp) (by omega) (by omega)).mono ?_
      rintro e w4 ⟨rfl, rfl⟩
      rw [Hd.out]
      go_wp2_with fail
      go_round
      case rel => exact ⟨m + 1, by omega, by go_num, by omega, rfl⟩
      case measure => simp [intOf]; omega


theorem code_any {w : World} {adr : Nat → Addr} {e : GErr} {v : Value} (hE : ErrEnv w adr) (he : IsErr w adr e v) :
    Calls Tryd.prog 50 #[v] w fun r w' => r = .returned (.tuple #[.int .i64 e.code, .int .i64 e.at']) ∧ Below w.heap.size w w' := by
  cases e with
  | nil => obtain rfl := he; exact code_nil w
  | sent k => obtain ⟨h1, h8, rfl⟩ := he; exact code_sent k w adr hE h1 h8
  | fault k p => obtain ⟨h1, h8, b, rfl, h4, h5⟩ := he; exact code_fault k p b w adr hE h1 h8 h4 h5
end Go.Proofs.YthilhooomlhfpaaDoor
