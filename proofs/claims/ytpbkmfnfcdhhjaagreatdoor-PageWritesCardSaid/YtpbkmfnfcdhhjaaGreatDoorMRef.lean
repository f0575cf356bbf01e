/- Merged texts: IsVal, EncW6, EncW7, ValArgs. -/
import Derived.Test.YtpbkmfnfcdhhjaaGreatDoorMEnc
import Derived.Test.YtpbkmfnfcdhhjaaGreatDoorMBits
import Derived.Test.YtpbkmfnfcdhhjaaGreatDoorMWire
import Derived.Lib.SmallJoins
import Derived.OpenShut
import Derived.ChangeArms
import Derived.Deep.Slices
import Derived.Deep.Fields
import Derived.Deep.QuietTactic

/- The walks of the document's IsValue. -/
namespace Go.Proofs.YtpbkmfnfcdhhjaaGreatDoor
set_option linter.unusedVariables false
open Go Go.RowKit Go.ChangeShapes

set_option maxRecDepth 100000 in
set_option maxHeartbeats 1000000 in
theorem isValue_yes (kind : Int) (x : Val) (hx : x.Ok) (w : World) (h : OkP kind x) (h1' : 1 ≤ kind) (h5' : kind ≤ 5) :
    Calls Tryz.prog 35 #[.int .i64 kind, .agg (valA x)] w fun e w' => e = .returned (.bool true) ∧ Below w.heap.size w w' := by
  obtain ⟨k, n, s⟩ := x
  obtain ⟨k0, k1, n0, n1, s1⟩ := hx
  obtain ⟨hk, h4, hn4, h1, h2⟩ := h
  simp only at hk h4 hn4 h1 h2 k0 k1 n0 n1 s1
  subst hk
  have hsz : s.toList = [] ↔ s.size = 0 := by have := empty_beq s; rw [Bool.eq_iff_iff, beq_iff_eq, decide_eq_true_iff] at this; exact this
  unfold maxLen at s1
  unfold valA
  by_cases c4 : k = 4
  · obtain ⟨rfl, hs⟩ := h4 c4
    subst c4
    clear hn4 h1 h2 h4 hsz
    go_enter Tryz.func35, Tryz.ntmps35
    go_wp2_with fail
    go_ret
    exact ⟨ret_of (by simp; omega), (Below.refl _ _).alloc (Nat.le_refl _) _⟩
  · have hs0 := hn4 c4
    have he := empty_list hs0
    subst he
    clear hs0 hn4 h4 hsz s1
    by_cases c1 : k = 1
    · obtain ⟨a1, a2⟩ := h1 c1
      subst c1
      have hd : n / 2 = 0 := by omega
      clear h1 h2
      go_enter Tryz.func35, Tryz.ntmps35
      go_wp2_with fail
      go_ret
      exact ⟨ret_of (by simp), (Below.refl _ _).alloc (Nat.le_refl _) _⟩
    · by_cases c2 : k = 2
      · obtain ⟨a1, a2⟩ := h2 c2
        subst c2
        have hd : IntKind.i32.wrap n = n := by rw [IntKind.wrap_i32]; omega
        clear h1 h2
        go_enter Tryz.func35, Tryz.ntmps35
        go_wp2_with fail
        go_ret
        exact ⟨ret_of (by simp), (Below.refl _ _).alloc (Nat.le_refl _) _⟩
      · clear h1 h2
        go_enter Tryz.func35, Tryz.ntmps35
        go_wp2_with fail
        go_ret
        exact ⟨ret_of (by simp), (Below.refl _ _).alloc (Nat.le_refl _) _⟩

set_option maxRecDepth 100000 in
set_option maxHeartbeats 1000000 in
theorem isValue_no (kind : Int) (x : Val) (hx : x.Ok) (w : World) (h : ¬ OkP kind x) (h1' : 1 ≤ kind) (h5' : kind ≤ 5) :
    Calls Tryz.prog 35 #[.int .i64 kind, .agg (valA x)] w fun e w' => e = .returned (.bool false) ∧ Below w.heap.size w w' := by
  obtain ⟨k, n, s⟩ := x
  obtain ⟨k0, k1, n0, n1, s1⟩ := hx
  simp only at k0 k1 n0 n1 s1
  have hsz : s.toList = [] ↔ s.size = 0 := by have := empty_beq s; rw [Bool.eq_iff_iff, beq_iff_eq, decide_eq_true_iff] at this; exact this
  have hem := empty_beq s
  have hem' := empty_beq' s
  unfold maxLen at s1
  unfold valA
  by_cases hk : k = kind
  · subst hk
    by_cases c4 : k = 4
    · subst c4
      have hh : ¬ n = 0 ∨ 100 < s.size := by
        by_cases a : n = 0
        · by_cases b : 100 < s.size
          · exact .inr b
          · exact absurd ⟨rfl, fun _ => ⟨a, by show s.size ≤ 100; omega⟩, fun c => absurd rfl c, by simp, by simp⟩ h
        · exact .inl a
      clear h hsz hem hem'
      by_cases hn : n = 0
      · have hb : (n == 0) = true := by simpa using hn
        have hs : decide ((s.size : Int) ≤ 100) = false := by simp; omega
        clear hh hn
        go_enter Tryz.func35, Tryz.ntmps35
        go_wp2_with fail
        all_goals
          go_ret
          exact ⟨ret_of (by simp), (Below.refl _ _).alloc (Nat.le_refl _) _⟩
      · have hb : (n == 0) = false := by simpa using hn
        clear hh hn
        go_enter Tryz.func35, Tryz.ntmps35
        go_wp2_with fail
        all_goals
          go_ret
          exact ⟨ret_of (by simp), (Below.refl _ _).alloc (Nat.le_refl _) _⟩
    · by_cases hb1 : k = 1 ∧ ¬ (0 ≤ n ∧ n ≤ 1)
      · obtain ⟨rfl, hr⟩ := hb1
        have hd : ¬ (0 ≤ n ∧ n ≤ 1) := hr
        clear h hsz hem hem' hr c4
        go_enter Tryz.func35, Tryz.ntmps35
        go_wp2_with fail
        all_goals
          go_ret
          exact ⟨ret_of (by simp), (Below.refl _ _).alloc (Nat.le_refl _) _⟩
      · by_cases hb2 : k = 2 ∧ ¬ (-2147483648 ≤ n ∧ n ≤ 2147483647)
        · obtain ⟨rfl, hr⟩ := hb2
          have hd : ¬ (-2147483648 ≤ n ∧ n ≤ 2147483647) := hr
          clear h hsz hem hem' hr c4 hb1
          go_enter Tryz.func35, Tryz.ntmps35
          go_wp2_with fail
          all_goals
            go_ret
            exact ⟨ret_of (by simp), (Below.refl _ _).alloc (Nat.le_refl _) _⟩
        · have hs0 : ¬ s.size = 0 := fun hs => h ⟨rfl, fun c => absurd c c4, fun _ => hs, fun c => by
            simp only at c ⊢; omega, fun c => by simp only at c ⊢; omega⟩
          have e1 : s.toList.isEmpty = false := by rw [hem']; simpa using hs0
          have e2 : ¬ s.toList = [] := by rw [hsz]; exact hs0
          clear h hsz hem hem' hs0
          by_cases c1 : k = 1
          · subst c1
            have hr : 0 ≤ n ∧ n ≤ 1 := by omega
            obtain ⟨hr1, hr2⟩ := hr
            clear hb1 hb2 c4
            go_enter Tryz.func35, Tryz.ntmps35
            go_wp2_with fail
            all_goals
              go_ret
              exact ⟨ret_of (by simp), (Below.refl _ _).alloc (Nat.le_refl _) _⟩
          · by_cases c2 : k = 2
            · subst c2
              have hr : -2147483648 ≤ n ∧ n ≤ 2147483647 := by omega
              obtain ⟨hr1, hr2⟩ := hr
              clear hb1 hb2 c4
              go_enter Tryz.func35, Tryz.ntmps35
              go_wp2_with fail
              all_goals
                go_ret
                exact ⟨ret_of (by simp), (Below.refl _ _).alloc (Nat.le_refl _) _⟩
            · clear hb1 hb2
              go_enter Tryz.func35, Tryz.ntmps35
              go_wp2_with fail
              all_goals
                go_ret
                exact ⟨ret_of (by simp), (Below.refl _ _).alloc (Nat.le_refl _) _⟩
  · have hk' : (k == kind) = false := by simpa using hk
    clear h hsz hem hem'
    go_enter Tryz.func35, Tryz.ntmps35
    go_wp2_with fail
    all_goals
      go_ret
      exact ⟨ret_of (by simp), (Below.refl _ _).alloc (Nat.le_refl _) _⟩


set_option maxRecDepth 100000 in
set_option maxHeartbeats 1000000 in
theorem isValue_out (kind : Int) (x : Val) (hx : x.Ok) (w : World) (h : kind < 1 ∨ 5 < kind) :
    Calls Tryz.prog 35 #[.int .i64 kind, .agg (valA x)] w fun e w' => e = .returned (.bool false) ∧ Below w.heap.size w w' := by
  obtain ⟨k, n, s⟩ := x
  obtain ⟨k0, k1, n0, n1, s1⟩ := hx
  simp only at k0 k1 n0 n1 s1
  unfold valA
  by_cases hk : k = kind
  · subst hk
    by_cases h1 : k < 1
    · clear h
      go_enter Tryz.func35, Tryz.ntmps35
      go_wp2_with fail
      all_goals
        go_ret
        exact ⟨ret_of (by simp), (Below.refl _ _).alloc (Nat.le_refl _) _⟩
    · have h2 : 5 < k := by omega
      clear h
      go_enter Tryz.func35, Tryz.ntmps35
      go_wp2_with fail
      all_goals
        go_ret
        exact ⟨ret_of (by simp), (Below.refl _ _).alloc (Nat.le_refl _) _⟩
  · have hk' : (k == kind) = false := by simpa using hk
    clear h
    go_enter Tryz.func35, Tryz.ntmps35
    go_wp2_with fail
    all_goals
      go_ret
      exact ⟨ret_of (by simp), (Below.refl _ _).alloc (Nat.le_refl _) _⟩
end Go.Proofs.YtpbkmfnfcdhhjaaGreatDoor

/- The walks of the document's ManyError, ValuesError. -/
namespace Go.Proofs.YtpbkmfnfcdhhjaaGreatDoor
set_option linter.unusedVariables false
open Go Go.RowKit Go.ChangeShapes

theorem badAt_first (kind : Int) : ∀ (l : List Val) (i k : Nat) (x : Val), (∀ j y, j < k → l[j]? = some y → OkP kind y) → l[k]? = some x → ¬ OkP kind x → badAt kind l i = some (i + k)
  | [], _, k, x, _, h, _ => by simp at h
  | a :: l, i, 0, x, _, h, hn => by
    simp at h
    subst h
    unfold badAt
    rw [if_neg (fun h' => hn ((okB_iff kind a).1 h'))]; rfl
  | a :: l, i, k + 1, x, hP, h, hn => by
    unfold badAt
    rw [if_pos ((okB_iff kind a).2 (hP 0 a (by omega) rfl)), badAt_first kind l (i + 1) k x (fun j y hj hy => hP (j + 1) y (by omega) (by simpa using hy)) (by simpa using h) hn]
    congr 1; omega
theorem manyErr_vals {kind : Int} {l : List Val} (h : manyErr kind (l.length : Nat) ≠ .nil) : valsErr kind l = manyErr kind (l.length : Nat) := by
  unfold manyErr valsErr at *
  split
  · rfl
  · rw [if_neg (by assumption)] at h
    split at h
    · rw [if_pos (by omega), if_pos (by assumption)]
    · exact absurd rfl h
theorem manyErr_ok {kind : Int} {n : Int} (h : manyErr kind n = .nil) : 1 ≤ kind ∧ kind ≤ 5 ∧ 0 ≤ n ∧ n ≤ 20000 := by
  unfold manyErr at h
  split at h
  · cases h
  · split at h
    · cases h
    · omega
theorem manyErr_nil {kind : Int} {l : List Val} (h : manyErr kind (l.length : Nat) = .nil) : valsErr kind l = match badAt kind l 0 with | none => .nil | some i => .fault 4 (i : Nat) := by
  obtain ⟨h1, h2, h3, h4⟩ := manyErr_ok h
  unfold valsErr
  rw [if_neg (by omega), if_neg (by omega)]
  cases badAt kind l 0 <;> rfl

def zF : Obj := .cells #[.int .i64 0, .int .i64 0] 32
theorem zF_at {w w1 : World} (hb1 : Below (w.alloc zF).heap.size (w.alloc zF) w1) : w1.heap[w.heap.size]? = some (.cells #[.int .i64 0, .int .i64 0] 32 (0, 0)) :=
  (hb1.block _ (by simp)).trans (heap_alloc_new _ _)
/-- the end: the answer stored into the result's variable -/
theorem zF_end {fn : Func} {rs : Array ResultVar} (hr : fn.results = rs) (hrs : rs = #[.cell 4 32]) {w w1 : World} {c p : Int} (hb1 : Below (w.alloc zF).heap.size (w.alloc zF) w1) (T : Array Value) (hT : T.getD 4 undef = .pointer (some ⟨w.heap.size, 0, none⟩)) :
    bodyPost Tryz.prog fn (fun e w' => e = .returned (faultV c p) ∧ Below w.heap.size w w') Exit.ret { tmps := T, defers := [] } (w1.setRow w.heap.size #[.int .i64 c, .int .i64 p]) := by
  have hg : w1.heap[w.heap.size]? = some (.cells #[.int .i64 0, .int .i64 0] 32 (0, 0)) := (hb1.block _ (by simp)).trans (heap_alloc_new _ _)
  refine bodyPost_ret (v := faultV c p) (results_cell_row (hr.trans hrs) _ _ w.heap.size 32 _ (0, 0) _ hT (setRow_heap _ _ _ _ _ _ hg) Tryz.underlying32 rfl (by kernel_rfl)) rfl ⟨rfl, ?_⟩
  exact below_setRow (((Below.refl w.heap.size w).alloc (Nat.le_refl _) _).trans (hb1.mono (by simp))) (Nat.le_refl _) _

/-- a fault so far, k values seen -/
def FaultSo (kind : Int) (l : List Val) (k : Nat) (c p : Int) : Prop :=
  (c = 0 ∧ p = -1 ∧ manyErr kind (l.length : Nat) = .nil ∧ ∀ j y, j < k → l[j]? = some y → OkP kind y) ∨ ((c == 0) = false ∧ c = (valsErr kind l).code ∧ p = (valsErr kind l).at')

end Go.Proofs.YtpbkmfnfcdhhjaaGreatDoor

/- The walk of the document's PlainOf at right values. -/
namespace Go.Proofs.YtpbkmfnfcdhhjaaGreatDoor
set_option linter.unusedVariables false
open Go Go.RowKit Go.ChangeShapes

theorem packed_nil (wd : Nat) : packed wd [] = [] := by simp [packed, bytesOf, little]
theorem packOf_none (w : World) : Calls Tryz.prog 90 #[.slice none 0 0, .int .i64 1] w fun e w' => e = .returned (.string ⟨#[]⟩) ∧ Below w.heap.size w w' := by
  have h := packOf_any (.slice none 0 0) [] 1 w (.inl ⟨rfl, none, 0, rfl⟩) (by omega) (by simp) (by simp)
  rw [packed_nil] at h
  exact h

set_option maxRecDepth 100000 in
set_option maxHeartbeats 2000000 in
theorem plainOf_nums (kind : Int) (z : Nat) (hk : kind = 2 ∧ z = 4 ∨ kind = 3 ∧ z = 8 ∨ kind = 5 ∧ z = 8) (v : Value) (l : List Val) (w : World) (hI : IsVals w v l) (hl : l.length ≤ 20000) :
    Calls Tryz.prog 83 #[.int .i64 kind, v] w fun e w' => e = .returned (.string ⟨(l.flatMap fun x => little z (uN x)).toArray⟩) ∧ Below w.heap.size w w' := by
  have HI := Lib.hid hI
  have hz8 : z ≤ 8 := by omega
  obtain ⟨ad, cap, rfl⟩ := hI.form
  clear hI
  go_enter Tryz.func83, Tryz.ntmps83
  go_wp2_with fail
  go_loopw [5, 6, 7] (fun s b i wr => ∃ k : Nat, k ≤ l.length ∧ i = .int .i64 k ∧ b = .slice none 0 0 ∧ s = .string ⟨((l.take k).flatMap fun x => little z (uN x)).toArray⟩ ∧ Below w.heap.size w wr) (fun _ _ i _ => l.length - (intOf i).toNat)
  case atStart => exact ⟨0, Nat.zero_le _, rfl, rfl, rfl, Below.refl _ _⟩
  case round =>
    obtain ⟨k, hkl, rfl, rfl, rfl, hb⟩ := hrel
    by_cases hlt : k < l.length
    · obtain ⟨b0, off, rfl, hq, hlt0, hc⟩ := (HI.out.below hb (Nat.le_refl _)).at (by omega)
      have hcx := (hc k l[k] (List.getElem?_eq_getElem hlt)).2.1
      have hn : ((l.take (k + 1)).flatMap fun x => little z (uN x)) = ((l.take k).flatMap fun x => little z (uN x)) ++ little z (uN l[k]) := by
        rw [List.take_succ_eq_append_getElem hlt]; exact flat_snoc _ _ _
      have hlen := flat_len8 z (l.take k)
      rw [List.length_take, Nat.min_eq_left hkl] at hlen
      have hlz : ((l.take k).flatMap fun x => little z (uN x)).length ≤ 160000 := by
        rw [hlen]
        have : k * z ≤ 20000 * 8 := Nat.mul_le_mul (by omega) hz8
        omega
      generalize l[k] = x at *
      have hin : (k : Int) < (l.length : Int) := by omega
      have hcv := uN_wrap x
      have hul := uN_lt x
      have hll := little_len z (uN x)
      have HL := Lib.hid (fun w2 => littleOf_any (uN x) z w2 hul (by omega))
      have Hn := Lib.hid hn
      have hlz2 : (little z (uN x)).length ≤ 8 := by omega
      generalize little z (uN x) = ls at *
      generalize ((l.take k).flatMap fun x => little z (uN x)) = acc at *
      clear hq hc hn hlen hul hll
      rcases hk with ⟨rfl, rfl⟩ | ⟨rfl, rfl⟩ | ⟨rfl, rfl⟩
      all_goals
        go_wp2_with fail
        refine (HL.out _).mono ?_; rintro e w2 ⟨rfl, hb2⟩
        go_wp2_with fail
        go_roundw
        case rel => exact ⟨k + 1, by omega, by go_num, rfl, by rw [Hn.out]; exact (by rw [ByteArray.mk_append_mk]), below_trans hb hb2⟩
        case measure => simp [intOf]; omega
    · obtain rfl : k = l.length := by omega
      rw [List.take_length]
      have hlen := flat_len8 z l
      have hlz : (l.flatMap fun x => little z (uN x)).length ≤ 160000 := by
        rw [hlen]
        have : l.length * z ≤ 20000 * 8 := Nat.mul_le_mul (by omega) hz8
        omega
      generalize hacc : (l.flatMap fun x => little z (uN x)) = acc at *
      have Hacc := Lib.hid hacc
      clear hlen hacc
      go_wp2_with fail
      refine (packOf_none _).mono ?_; rintro e w2 ⟨rfl, hb2⟩
      go_wp2_with fail
      go_ret
      exact ⟨ret_of (by
        show Value.string (ByteArray.mk acc.toArray ++ ByteArray.mk #[]) = _
        rw [ByteArray.mk_append_mk, Hacc.out]
        simp), below_trans hb hb2⟩

set_option maxRecDepth 100000 in
set_option maxHeartbeats 2000000 in
theorem plainOf_texts (v : Value) (l : List Val) (w : World) (hI : IsVals w v l) (hl : l.length ≤ 20000) (hP : ∀ x ∈ l, x.s.size ≤ 100) :
    Calls Tryz.prog 83 #[.int .i64 4, v] w fun e w' => e = .returned (.string ⟨(textsB l).toArray⟩) ∧ Below w.heap.size w w' := by
  have HI := Lib.hid hI; have HP := Lib.hid hP
  obtain ⟨ad, cap, rfl⟩ := hI.form
  clear hI hP
  go_enter Tryz.func83, Tryz.ntmps83
  go_wp2_with fail
  go_loopw [5, 6, 7] (fun s b i wr => ∃ k : Nat, k ≤ l.length ∧ i = .int .i64 k ∧ b = .slice none 0 0 ∧ s = .string ⟨(textsB (l.take k)).toArray⟩ ∧ Below w.heap.size w wr) (fun _ _ i _ => l.length - (intOf i).toNat)
  case atStart => exact ⟨0, Nat.zero_le _, rfl, rfl, rfl, Below.refl _ _⟩
  case round =>
    obtain ⟨k, hkl, rfl, rfl, rfl, hb⟩ := hrel
    by_cases hlt : k < l.length
    · obtain ⟨b0, off, rfl, hq, hlt0, hc⟩ := (HI.out.below hb (Nat.le_refl _)).at (by omega)
      have hcx := (hc k l[k] (List.getElem?_eq_getElem hlt)).2.2
      have hpx := HP.out l[k] (List.getElem_mem hlt)
      have hn : textsB (l.take (k + 1)) = textsB (l.take k) ++ textOf l[k].s.data.toList := by
        rw [List.take_succ_eq_append_getElem hlt]; exact flat_snoc _ _ _
      have htl := texts_len (l.take k) fun x hx => HP.out x (List.mem_of_mem_take hx)
      rw [List.length_take] at htl
      have hlz : (textsB (l.take k)).length ≤ 2020000 := by omega
      generalize l[k] = x at *
      have hin : (k : Int) < (l.length : Int) := by omega
      have hxl := textOf_len x.s.data.toList (by rw [size_data]; exact hpx)
      rw [size_data] at hxl
      have HL := Lib.hid (fun w2 => long_any x.s w2 (by omega))
      have Hn := Lib.hid hn
      have hlz2 : (textOf x.s.data.toList).length ≤ 101 := by omega
      generalize textOf x.s.data.toList = ls at *
      generalize textsB (l.take k) = acc at *
      clear hq hc hn hxl htl hpx
      go_wp2_with fail
      refine (HL.out _).mono ?_; rintro e w2 ⟨rfl, hb2⟩
      go_wp2_with fail
      go_roundw
      case rel => exact ⟨k + 1, by omega, by go_num, rfl, by rw [Hn.out]; exact (by rw [ByteArray.mk_append_mk]), below_trans hb hb2⟩
      case measure => simp [intOf]; omega
    · obtain rfl : k = l.length := by omega
      rw [List.take_length]
      have htl := texts_len l HP.out
      have hlz : (textsB l).length ≤ 2020000 := by omega
      generalize hacc : textsB l = acc at *
      have Hacc := Lib.hid hacc
      clear htl hacc
      go_wp2_with fail
      refine (packOf_none _).mono ?_; rintro e w2 ⟨rfl, hb2⟩
      go_wp2_with fail
      go_ret
      exact ⟨ret_of (by
        show Value.string (ByteArray.mk acc.toArray ++ ByteArray.mk #[]) = _
        rw [ByteArray.mk_append_mk, Hacc.out]
        simp), below_trans hb hb2⟩

set_option maxRecDepth 100000 in
set_option maxHeartbeats 2000000 in
theorem plainOf_bools (v : Value) (l : List Val) (w : World) (hI : IsVals w v l) (hl : l.length ≤ 20000) (hP : ∀ x ∈ l, OkP 1 x) :
    Calls Tryz.prog 83 #[.int .i64 1, v] w fun e w' => e = .returned (.string ⟨(packed 1 (numsOf 1 l)).toArray⟩) ∧ Below w.heap.size w w' := by
  have HI := Lib.hid hI; have HP := Lib.hid hP
  obtain ⟨i0, hi, hz0, hz1, hz2⟩ := info_parts info_u64
  obtain ⟨ad, cap, rfl⟩ := hI.form
  clear hI hP
  go_enter Tryz.func83, Tryz.ntmps83
  go_wp2_with fail
  go_loopw [5, 6, 7] (fun s b i wr => ∃ k : Nat, k ≤ l.length ∧ i = .int .i64 k ∧ s = .string ⟨#[]⟩ ∧ wr.ownsRow w.heap.size 95 1 b (numsOf 1 (l.take k)).length ((numsOf 1 (l.take k)).map natU) ∧ Below w.heap.size w wr) (fun _ _ i _ => l.length - (intOf i).toNat)
  case atStart => exact ⟨0, Nat.zero_le _, rfl, rfl, World.ownsRow_nil _ _ _ _, Below.refl _ _⟩
  case round =>
    obtain ⟨k, hkl, rfl, rfl, hown, hb⟩ := hrel
    have Ho := Lib.hid hown
    clear hown
    by_cases hlt : k < l.length
    · obtain ⟨b0, off, rfl, hq, hlt0, hc⟩ := (HI.out.below hb (Nat.le_refl _)).at (by omega)
      have hcx := (hc k l[k] (List.getElem?_eq_getElem hlt)).2.1
      have hpx := (HP.out l[k] (List.getElem_mem hlt)).bool rfl
      have hn : numsOf 1 (l.take (k + 1)) = numsOf 1 (l.take k) ++ [uN l[k] % 2 ^ 1] := by
        rw [List.take_succ_eq_append_getElem hlt]; unfold numsOf; rw [List.map_append]; rfl
      have hln : (numsOf 1 (l.take k)).length = k := by simp [numsOf]; omega
      have hu : uN l[k] % 2 ^ 1 = uN l[k] := by unfold uN; omega
      rw [hu] at hn
      have h63 : (numsOf 1 (l.take k)).length + 1 ≤ maxLen := by rw [hln]; unfold maxLen; omega
      have h64 : ((numsOf 1 (l.take k)).length + 1) * 8 ≤ 140737488355328 := by rw [hln]; omega
      generalize l[k] = x at *
      have hin : (k : Int) < (l.length : Int) := by omega
      have hcv := uN_wrap x
      have Hn := Lib.hid hn
      clear hq hc hn hln hu hpx
      go_wp2_with (at_builtin; refine wpList_push rfl _ _ 149 rfl w.heap.size 95 i0 (.int .u64 0) 8 Tryz.underlying149 hi hz0 hz1 hz2 rfl natU (fun _ => rfl) _ _ rfl Ho.out _ _ rfl h63 h64 hb.size (uN x) rfl ?_; intro v' w1 hown' hb' hnn; have Ho' := Lib.hid hown'; clear hown')
      go_roundw
      case rel => exact ⟨k + 1, by omega, by go_num, rfl, by rw [Hn.out]; exact Ho'.out, hb.trans hb'⟩
      case measure => simp [intOf]; omega
    · obtain rfl : k = l.length := by omega
      rw [List.take_length] at Ho
      obtain ⟨ad2, cap2, rfl⟩ := (numsU_nat Ho.out).form
      have HK := Lib.hid (fun w2 (hb2 : Below w.heap.size w w2) h => packOf_any (.slice ad2 (ints (numsOf 1 l)).length cap2) (numsOf 1 l) 1 w2 h (by omega) (by simp [numsOf]; omega) (numsOf_lt 1 l))
      have HO := Lib.hid (numsU_nat Ho.out)
      have hpl : (packed 1 (numsOf 1 l)).length ≤ 20000 := by
        rw [packed, bytesOf_len]
        have : (numsOf 1 l).length = l.length := by simp [numsOf]
        omega
      clear Ho
      generalize hacc : packed 1 (numsOf 1 l) = pk at *
      have Hacc := Lib.hid hacc
      clear hacc
      go_wp2_with fail
      refine (HK.out _ hb HO.out).mono ?_; rintro e w2 ⟨rfl, hb2⟩
      go_wp2_with fail
      go_ret
      exact ⟨ret_of (by
        show Value.string (ByteArray.mk #[] ++ ByteArray.mk pk.toArray) = _
        rw [ByteArray.mk_append_mk, Hacc.out]
        simp), below_trans hb hb2⟩

/-- the document's plain bytes -/
theorem plainOf_any (kind : Int) (v : Value) (l : List Val) (w : World) (hI : IsVals w v l) (hl : l.length ≤ 20000) (h1 : 1 ≤ kind) (h5 : kind ≤ 5) (hP : ∀ x ∈ l, OkP kind x) :
    Calls Tryz.prog 83 #[.int .i64 kind, v] w fun e w' => e = .returned (.string ⟨(plainB kind l).toArray⟩) ∧ Below w.heap.size w w' := by
  by_cases c1 : kind = 1
  · subst c1; exact plainOf_bools v l w hI hl hP
  · by_cases c4 : kind = 4
    · subst c4; exact plainOf_texts v l w hI hl fun x hx => ((hP x hx).text rfl).2
    · by_cases c2 : kind = 2
      · subst c2; rw [plainB_int]; exact plainOf_nums 2 4 (.inl ⟨rfl, rfl⟩) v l w hI hl
      · have c35 : kind = 3 ∨ kind = 5 := by omega
        rw [plainB_long l c35]
        exact plainOf_nums kind 8 (by omega) v l w hI hl
end Go.Proofs.YtpbkmfnfcdhhjaaGreatDoor

/- Arguments that are values, opened. -/
namespace Go.Proofs.YtpbkmfnfcdhhjaaGreatDoor
set_option linter.unusedVariables false
open Go Go.RowKit Go.ChangeShapes Go.WideShapes Go.ChangeAt

set_option maxRecDepth 100000 in
theorem args_val {H : Type} {enc : TypeId × Value → H} {W : World} {v : Value} {d : DataW H} {p : List MemPlace} {base : Nat} (okv : Value.okWide Tryz.prog W .any base 51 v)
    (h : DataW.Trod enc Tryz.prog W 0 (fun _ => true) true 51 v d p) : ∃ x : Val, v = .agg (valA x) ∧ x.Ok := by
  obtain ⟨v0, v1, v2, y0, y1, y2, n, rfl, _, _, h0, h1, h2⟩ := Joins.open_agg3 Tryz.underlying51 (by kernel_rfl) (by kernel_rfl) okv h
  obtain ⟨a, ha, _, wa⟩ := DataW.trod_int Tryz.underlying3 h0
  obtain ⟨b, hb, _, wb⟩ := DataW.trod_int Tryz.underlying2 h1
  obtain ⟨s, hs, _, ws⟩ := DataW.trod_string Tryz.underlying9 h2
  simp only [List.cons.injEq, and_true] at ha hb hs
  subst ha hb hs
  have ba := bounds_i64 wa
  have bb := bounds_i64 wb
  exact ⟨⟨a, b, s⟩, rfl, ⟨ba.1, by show a < _; omega, bb.1, by show b < _; omega, ws⟩⟩

/-- such values as Go can hold -/
def FitsV (l : List Val) : Prop := l.length ≤ maxLen ∧ ∀ x ∈ l, x.Ok
theorem cells_val : Tryz.prog.cellsOf 51 = 3 := by kernel_rfl
/-- a struct of three one-cell fields, read -/
theorem fields3 {H : Type} {enc : TypeId × Value → H} {P : Program} {W : World} {base fuel : Nat} {sp : Nat → Bool} {held : Bool} {t : TypeId} {f0 f1 f2 : Field} {cs : List Value} {z : DataW H × List MemPlace}
    (hs : P.underlying t = some (.struct #[f0, f1, f2])) (hone : Deep.oneCellFields P #[f0, f1, f2] = true) (hC : P.cellsOf t = 3) (h : DataW.trod enc P W base sp held fuel t cs = some z) :
    ∃ c0 c1 c2 y0 y1 y2 n, cs = [c0, c1, c2] ∧ DataW.trod enc P W base sp held n f0.type [c0] = some y0 ∧ DataW.trod enc P W base sp held n f1.type [c1] = some y1 ∧ DataW.trod enc P W base sp held n f2.type [c2] = some y2 := by
  obtain ⟨xs, n, rfl, _, hlen, hxl, hf⟩ := DataW.trod_struct hs h
  rw [hC] at hlen
  match cs, hlen with
  | [c0, c1, c2], _ =>
    match xs, hxl with
    | [y0, y1, y2], _ =>
      obtain ⟨o0, k0⟩ := Deep.hone_of hone 0 f0 rfl
      obtain ⟨o1, k1⟩ := Deep.hone_of hone 1 f1 rfl
      obtain ⟨o2, k2⟩ := Deep.hone_of hone 2 f2 rfl
      exact ⟨c0, c1, c2, y0, y1, y2, n, rfl, by simpa [o0, k0] using hf 0 f0 rfl, by simpa [o1, k1] using hf 1 f1 rfl, by simpa [o2, k2] using hf 2 f2 rfl⟩
set_option maxRecDepth 100000 in
/-- the three cells of an element, read -/
theorem val_fields {H : Type} {enc : TypeId × Value → H} {W : World} {fuel : Nat} {cs : List Value} {z : DataW H × List MemPlace} (h : DataW.trod enc Tryz.prog W 0 (fun _ => true) true fuel 51 cs = some z) :
    ∃ x : Val, cs = valCells x ∧ x.Ok := by
  obtain ⟨c0, c1, c2, y0, y1, y2, n, rfl, h0, h1, h2⟩ := fields3 Tryz.underlying51 (by kernel_rfl) cells_val h
  obtain ⟨a, ha, _, wa⟩ := DataW.trod_int Tryz.underlying3 h0
  obtain ⟨b, hb, _, wb⟩ := DataW.trod_int Tryz.underlying2 h1
  obtain ⟨s, hs, _, ws⟩ := DataW.trod_string Tryz.underlying9 h2
  simp only [List.cons.injEq, and_true] at ha hb hs
  subst ha hb hs
  have ba := bounds_i64 wa
  have bb := bounds_i64 wb
  exact ⟨⟨a, b, s⟩, rfl, ⟨ba.1, by show a < _; omega, bb.1, by show b < _; omega, ws⟩⟩
set_option maxRecDepth 100000 in
theorem args_vals {H : Type} {enc : TypeId × Value → H} {W : World} {v : Value} {d : DataW H} {p : List MemPlace} {base : Nat} (okv : Value.okWide Tryz.prog W .any base 25 v)
    (h : DataW.Trod enc Tryz.prog W 0 (fun _ => true) true 25 v d p) : ∃ l, IsVals W v l ∧ FitsV l := by
  obtain ⟨a0, len, cap, rfl⟩ := okWide_slice Tryz.underlying25 okv
  obtain ⟨fuel, hf⟩ := h
  rcases Go.Deep.open_slice Tryz.underlying25 hf with ⟨hcs, hx⟩ | ⟨a, len', cap', m, n, D, Pl, hcs, hb, hl, hm, hmm, hx, hi⟩
  · have : a0 = none ∧ len = 0 ∧ cap = 0 := by simpa [Value.cells] using hcs
    obtain ⟨rfl, rfl, rfl⟩ := this
    exact ⟨[], .inl ⟨rfl, none, 0, rfl⟩, by simp [FitsV]⟩
  · have : a0 = some a ∧ len = len' ∧ cap = cap' := by simpa [Value.cells] using hcs
    obtain ⟨rfl, rfl, rfl⟩ := this
    rw [if_pos rfl] at hmm
    by_cases h0 : len = 0
    · subst h0
      exact ⟨[], .inl ⟨rfl, _, _, rfl⟩, by simp [FitsV]⟩
    · have hex : ∀ i, ∃ x : Val, i < len → x.Ok ∧ ∀ j u, (valCells x)[j]? = some u → W.cell? ((a.add (i * 3)).add j) = some u := by
        intro i
        by_cases hil : i < len
        · obtain ⟨cs', hc, ht⟩ := hi i (by omega)
          rw [cells_val] at hc
          obtain ⟨x, rfl, hok⟩ := val_fields ht
          obtain ⟨_, hcl, hat⟩ := World.cells?_some hc
          refine ⟨x, fun _ => ⟨hok, fun j u hj => ?_⟩⟩
          rw [hat j (by have := (List.getElem?_eq_some_iff.1 hj).1; simpa [valCells] using this), hj]
        · exact ⟨⟨0, 0, ⟨#[]⟩⟩, fun h => absurd h hil⟩
      obtain ⟨X, hX⟩ := Classical.axiomOfChoice hex
      have h00 := (hX 0 (by omega)).2 0 _ rfl
      obtain ⟨b, off, spot⟩ := a
      have hspot : spot = none := by simpa [Addr.add] using World.cell?_spot h00
      subst hspot
      have hlen : ((List.range len).map X).length = len := by simp
      refine ⟨(List.range len).map X, .inr ⟨b, off, cap, by rw [hlen], ?_, ?_⟩, by rw [hlen]; omega, ?_⟩
      · rw [Go.WideShapes.add_plain, Go.WideShapes.add_plain] at h00
        exact block_lt_of_cell h00
      · intro j x hj
        rw [List.getElem?_map] at hj
        have hjl : j < len := by
          rcases Nat.lt_or_ge j len with h' | h'
          · exact h'
          · rw [List.getElem?_eq_none (by simpa using h')] at hj; cases hj
        rw [List.getElem?_range hjl] at hj
        obtain rfl := Option.some.inj hj
        have := (hX j hjl).2
        simp only [Go.WideShapes.add_plain] at this
        refine ⟨this 0 _ rfl, this 1 _ rfl, this 2 _ rfl⟩
      · intro x hx
        obtain ⟨j, hj, rfl⟩ := List.mem_map.1 hx
        exact (hX j (List.mem_range.1 hj)).1
end Go.Proofs.YtpbkmfnfcdhhjaaGreatDoor
