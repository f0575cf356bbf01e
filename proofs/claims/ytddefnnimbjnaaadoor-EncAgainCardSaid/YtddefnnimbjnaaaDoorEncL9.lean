/- The walk of the statement EncAgain. -/
import Derived.Test.YtddefnnimbjnaaaDoorRdB
import Derived.Test.YtddefnnimbjnaaaDoorRdX
import Derived.Test.YtddefnnimbjnaaaDoorRdDa
import Derived.Test.YtddefnnimbjnaaaDoorRdDb
import Derived.Test.YtddefnnimbjnaaaDoorRdDz
import Derived.Test.YtddefnnimbjnaaaDoorRead4
import Derived.Test.YtddefnnimbjnaaaDoorMRef
namespace Go.Proofs.YtddefnnimbjnaaaDoor
set_option linter.unusedVariables false
open Go Go.RowKit Go.ChangeShapes

theorem valsErr_right {kind : Int} {l : List Val} (h1 : 1 ≤ kind) (h5 : kind ≤ 5) (hl : l.length ≤ 20000) (hP : ∀ x ∈ l, OkP kind x) : valsErr kind l = .nil := by
  unfold valsErr
  rw [if_neg (by omega), if_neg (by omega), (badAt_none kind l 0).2 hP]
/-- an error, or values of which something holds -/
def AgainV (P : List Val → Prop) (e : Ending) (w' : World) : Prop :=
  (∃ T a, (T = 173 ∨ T = 115) ∧ e = .returned (.tuple #[.slice none 0 0, .iface T (.pointer (some a))])) ∨ (∃ av l, e = .returned (.tuple #[av, .nilIface]) ∧ IsVals w' av l ∧ (∀ x ∈ l, x.Ok) ∧ P l)
theorem AgainV.of_rd {P : List Val → Prop} {a : Addr} {B : Nat} {r : Option (List Val)} {e : Ending} {w' : World} (h : RdRet (.iface 173 (.pointer (some a))) B r e w') (hr : ∀ l, r = some l → (∀ x ∈ l, x.Ok) ∧ P l) : AgainV P e w' := by
  cases r with
  | none => exact .inl ⟨_, a, .inl rfl, h⟩
  | some l =>
    obtain ⟨u, he, ho⟩ := h
    obtain ⟨h1, h2⟩ := hr l rfl
    exact .inr ⟨u, l, he, IsVals.of_own ho, h1, h2⟩
theorem readPlain_again (kind n : Int) (s : ByteArray) (w : World) (adr : Nat → Addr) (hE : ErrsAt w adr [1, 2, 4]) (hn : n ≤ 300) (hs : s.size ≤ 1000) :
    Calls Tryd.prog 29 #[.int .i64 kind, .string s, .int .i64 n] w fun e w' => AgainV (fun l => valsErr kind l = .nil ∧ plainB kind l = s.data.toList) e w' ∧ Below w.heap.size w w' := by
  by_cases h : kind < 1 ∨ 5 < kind ∨ n < 0
  · have hne : manyErr kind n ≠ .nil := by
      unfold manyErr
      split
      · simp
      · rw [if_pos (by omega)]; simp
    refine (readPlain_err kind n s w adr (hE.sub rfl) (by omega)).mono ?_
    rintro e w' ⟨⟨u, rfl, hu⟩, rfl⟩
    obtain ⟨T, a, rfl, hT⟩ := hu.some' hne
    exact ⟨.inl ⟨T, a, hT, rfl⟩, Below.refl _ _⟩
  · obtain ⟨m, rfl⟩ : ∃ m : Nat, n = (m : Int) := ⟨n.toNat, by omega⟩
    have hc := hE.cell 1 (by decide)
    refine (readPlain_any kind s m _ _ w (by omega) (by omega) (by omega) (by omega) hc).mono ?_
    rintro e w' ⟨hr, hb⟩
    refine ⟨AgainV.of_rd hr fun l hl => ?_, hb⟩
    obtain ⟨h1, h2, h3, h4⟩ := readP_inv (by omega) (by omega) hl
    exact ⟨h3, valsErr_right (by omega) (by omega) (by omega) h4, h1⟩
theorem readDelta_again (kind n : Int) (s : ByteArray) (w : World) (adr : Nat → Addr) (hE : ErrsAt w adr [1, 2, 4]) (hn : n ≤ 300) (hs : s.size ≤ 1000) :
    Calls Tryd.prog 30 #[.int .i64 kind, .string s, .int .i64 n] w fun e w' => AgainV (fun l => (kind = 2 ∨ kind = 3) ∧ valsErr kind l = .nil ∧ deltaB (numsI l) = s.data.toList) e w' ∧ Below w.heap.size w w' := by
  by_cases hk : kind = 2 ∨ kind = 3
  · by_cases h : n < 0
    · have hne : manyErr kind n ≠ .nil := by
        unfold manyErr
        rw [if_neg (by omega), if_pos (by omega)]; simp
      refine (readDelta_err kind hk n s w adr (hE.sub rfl) (by omega)).mono ?_
      rintro e w' ⟨⟨u, rfl, hu⟩, rfl⟩
      obtain ⟨T, a, rfl, hT⟩ := hu.some' hne
      exact ⟨.inl ⟨T, a, hT, rfl⟩, Below.refl _ _⟩
    · obtain ⟨m, rfl⟩ : ∃ m : Nat, n = (m : Int) := ⟨n.toNat, by omega⟩
      have hc := hE.cell 1 (by decide)
      have key : Calls Tryd.prog 30 #[.int .i64 kind, .string s, .int .i64 (m : Int)] w fun e w' => RdRet (.iface 173 (.pointer (some (adr 1)))) w.heap.size (readD kind s.data.toList m) e w' ∧ Below w.heap.size w w' := by
        rcases Nat.eq_zero_or_pos m with rfl | h0
        · exact readDelta_zero kind hk s _ _ w hc
        · rcases hk with hk | hk
          · exact readDelta_pos2 kind hk s m _ _ w adr (hE.sub rfl) h0 (by omega) (by omega) hc
          · exact readDelta_pos3 kind hk s m _ _ w adr (hE.sub rfl) h0 (by omega) (by omega) hc
      refine key.mono ?_
      rintro e w' ⟨hr, hb⟩
      refine ⟨AgainV.of_rd hr fun l hl => ?_, hb⟩
      obtain ⟨h1, h2, h3, h4⟩ := readD_inv hk hl
      exact ⟨h3, hk, valsErr_right (by omega) (by omega) (by omega) h4, h1⟩
  · refine (readDelta_kind kind n s w adr (hE.sub rfl) (by omega) (by omega)).mono ?_
    rintro e w' ⟨rfl, hb⟩
    exact ⟨.inl ⟨_, _, .inl rfl, rfl⟩, hb⟩
/-- an error, or texts of which something holds -/
def AgainX (P : List ByteArray → Prop) (e : Ending) (w' : World) : Prop :=
  (∃ a, e = .returned (.tuple #[.slice none 0 0, .iface 173 (.pointer (some a))])) ∨ (∃ av L, e = .returned (.tuple #[av, .nilIface]) ∧ IsStrs w' av L ∧ P L)
theorem readPrefix_again (n : Int) (s : ByteArray) (w : World) (adr : Nat → Addr) (hE : ErrsAt w adr [1, 2, 4]) (hn : n ≤ 300) (hs : s.size ≤ 1000) :
    Calls Tryd.prog 32 #[.string s, .int .i64 n] w fun e w' => AgainX (fun L => L.length ≤ 20000 ∧ (∀ x ∈ L, x.size ≤ 100) ∧ prefixB [] (bytesL L) = s.data.toList) e w' ∧ Below w.heap.size w w' := by
  by_cases h : n < 0
  · refine (readPrefix_bound s n w _ (hE.cell 2 (by decide)) (.inl h)).mono ?_
    rintro e w' ⟨rfl, hb⟩
    exact ⟨.inl ⟨_, rfl⟩, hb⟩
  · obtain ⟨m, rfl⟩ : ∃ m : Nat, n = (m : Int) := ⟨n.toNat, by omega⟩
    have hc := hE.cell 1 (by decide)
    refine (readPrefix_any s m _ _ w (by omega) (by omega) hc).mono ?_
    rintro e w' ⟨hr, hb⟩
    refine ⟨?_, hb⟩
    cases hx : readX s.data.toList m with
    | none => rw [hx] at hr; exact .inl ⟨_, hr⟩
    | some L =>
      rw [hx] at hr
      obtain ⟨u, ls, rfl, hbl, ho⟩ := hr
      obtain ⟨h1, h2, h3⟩ := readX_inv hx
      subst hbl
      refine .inr ⟨u, ls, rfl, IsStrs.of_own ho, ?_, ?_, h1⟩
      · have : (bytesL ls).length = ls.length := List.length_map _
        omega
      · intro x hx'
        have := h3 x.data.toList (List.mem_map.2 ⟨x, hx', rfl⟩)
        simpa using this

set_option maxRecDepth 100000 in
set_option maxHeartbeats 2000000 in
theorem encAgain_law (kind : Int) (_k0 : -9223372036854775808 ≤ kind) (_k1 : kind < 9223372036854775808) (s : ByteArray) (hs : s.size ≤ maxLen) (n : Int) (n0 : -9223372036854775808 ≤ n) (n1 : n < 9223372036854775808) (w : World)
    (hL : laidMetH Tryd.prog Rows.encAgainRow.laid w) :
    Calls Tryd.prog 8 #[.int .i64 kind, .string s, .int .i64 n] w fun e w' => e = .returned (.bool true) ∧ Below w.heap.size w w' := by
  obtain ⟨adr, hE⟩ := errsAt_of_laid [1, 2, 4] rfl hL
  have HE := Lib.hid hE
  unfold maxLen at hs
  clear hL hE
  by_cases h1000 : 1000 < s.size
  · have hi : (1000 : Int) < (s.size : Int) := by omega
    go_enter Tryd.func8, Tryd.ntmps8
    go_wp2_with fail
    refine (four_any _).mono ?_; rintro e w1 ⟨rfl, hb1⟩
    go_wp2_with fail
    go_ret
    exact ⟨rfl, hb1⟩
  · have hi : (s.size : Int) ≤ 1000 := by omega
    by_cases h300 : 300 < n
    · go_enter Tryd.func8, Tryd.ntmps8
      go_wp2_with fail
      refine (four_any _).mono ?_; rintro e w1 ⟨rfl, hb1⟩
      go_wp2_with fail
      go_ret
      exact ⟨rfl, hb1⟩
    · have hn : n ≤ 300 := by omega
      have HP := Lib.hid (fun w1 h => readPlain_again kind n s w1 adr h hn (by omega))
      have HD := Lib.hid (fun w1 h => readDelta_again kind n s w1 adr h hn (by omega))
      have HX := Lib.hid (fun w1 h => readPrefix_again n s w1 adr h hn (by omega))
      clear h1000 h300
      go_enter Tryd.func8, Tryd.ntmps8
      go_wp2_with fail
      refine (four_any _).mono ?_; rintro e w1 ⟨rfl, hb1⟩
      go_wp2_with fail
      refine (HP.out w1 (HE.out.below hb1)).mono ?_; rintro e w2 ⟨hA, hb2⟩
      have Hb2 := Lib.hid (below_trans hb1 hb2)
      clear hb1 hb2
      rcases hA with ⟨T, a, rfl | rfl, rfl⟩ | ⟨av, l, rfl, hI, hO, hv, hp⟩
      rotate_left 2
      focus
        have HQ := Lib.hid (Plain_ok kind av l w2 adr ((HE.out.below Hb2.out).sub rfl) hI hO hv)
        have hq : (plainB kind l == s.toList) = true := by rw [ByteArray.toList_eq, beq_iff_eq]; exact hp
        obtain ⟨ad, cap, rfl⟩ := hI.form
        clear hI hO hv hp
        go_wp2_with fail
        refine HQ.out.mono ?_; rintro e w3 ⟨rfl, hb3⟩
        have Hb3 := Lib.hid (below_trans Hb2.out hb3)
        clear hb3
        go_wp2_with fail
        obtain ⟨w4, hw4⟩ : ∃ w4 : World, w4 = w3 := ⟨_, rfl⟩
        subst hw4
      rotate_left
      focus
        have Hb3 := Hb2
        go_wp2_with fail
        obtain ⟨w4, hw4⟩ : ∃ w4 : World, w4 = w2 := ⟨_, rfl⟩
        subst hw4
      rotate_left
      focus
        have Hb3 := Hb2
        go_wp2_with fail
        obtain ⟨w4, hw4⟩ : ∃ w4 : World, w4 = w2 := ⟨_, rfl⟩
        subst hw4
      rotate_left
      all_goals
        refine (HD.out w4 (HE.out.below Hb3.out)).mono ?_; rintro e w5 ⟨hA, hb5⟩
        have Hb5 := Lib.hid (below_trans Hb3.out hb5)
        clear hb5
        rcases hA with ⟨T, a, rfl | rfl, rfl⟩ | ⟨av, l, rfl, hI, hO, hk, hv, hp⟩
        rotate_left 2
        focus
          have HQ := Lib.hid (delta_ok kind hk av l w5 hI hO hv)
          have hq : (deltaB (numsI l) == s.toList) = true := by rw [ByteArray.toList_eq, beq_iff_eq]; exact hp
          obtain ⟨ad, cap, rfl⟩ := hI.form
          clear hI hO hv hp
          go_wp2_with fail
          refine HQ.out.mono ?_; rintro e w6 ⟨rfl, hb6⟩
          have Hb6 := Lib.hid (below_trans Hb5.out hb6)
          clear hb6
          go_wp2_with fail
          obtain ⟨w7, hw7⟩ : ∃ w7 : World, w7 = w6 := ⟨_, rfl⟩
          subst hw7
        rotate_left
        focus
          have Hb6 := Hb5
          go_wp2_with fail
          obtain ⟨w7, hw7⟩ : ∃ w7 : World, w7 = w5 := ⟨_, rfl⟩
          subst hw7
        rotate_left
        focus
          have Hb6 := Hb5
          go_wp2_with fail
          obtain ⟨w7, hw7⟩ : ∃ w7 : World, w7 = w5 := ⟨_, rfl⟩
          subst hw7
        rotate_left
        all_goals
          refine (HX.out w7 (HE.out.below Hb6.out)).mono ?_; rintro e w8 ⟨hA, hb8⟩
          have Hb8 := Lib.hid (below_trans Hb6.out hb8)
          clear hb8
          rcases hA with ⟨a, rfl⟩ | ⟨av, L, rfl, hI, hl, hs100, hp⟩
          · go_wp2_with fail
            go_ret
            exact ⟨rfl, Hb8.out⟩
          · have HQ := Lib.hid (prefix_ok av L w8 hI hl hs100)
            have hq : (prefixB [] (bytesL L) == s.toList) = true := by rw [ByteArray.toList_eq, beq_iff_eq]; exact hp
            obtain ⟨ad, cap, rfl⟩ := hI.form
            clear hI hl hs100 hp
            go_wp2_with fail
            refine HQ.out.mono ?_; rintro e w9 ⟨rfl, hb9⟩
            have Hb9 := Lib.hid (below_trans Hb8.out hb9)
            clear hb9
            go_wp2_with fail
            go_ret
            exact ⟨ret_of (by simp), Hb9.out⟩
end Go.Proofs.YtddefnnimbjnaaaDoor
