/- The walk of the document's ReadPlainOf at numbers. -/
import Derived.Test.YtpbkmfnfcdhhjaaDoorRfP
import Derived.Test.YtpbkmfnfcdhhjaaDoorGet64
namespace Go.Proofs.YtpbkmfnfcdhhjaaDoor
set_option linter.unusedVariables false
open Go Go.RowKit Go.ChangeShapes

theorem cell_n {kind z a : Int} (h : z = a) : (#[.int .i64 kind, .int .i64 z, .string ⟨#[]⟩] : Array Value) = valA ⟨kind, a, ⟨#[]⟩⟩ := by rw [h]; rfl
theorem sign_hi {xx : Nat} (h : 2147483647 < xx) (h2 : xx < 4294967296) : signN 2 xx = (xx : Int) - 4294967296 := by unfold signN; rw [if_pos rfl, if_neg (by omega)]
theorem sign_lo {xx : Nat} (h : ¬ 2147483647 < xx) : signN 2 xx = (xx : Int) := by unfold signN; rw [if_pos rfl, if_pos (by omega)]
theorem sign_35 {kind : Int} {xx : Nat} (hk : kind ≠ 2) (h : xx < 18446744073709551616) : wrap64 (xx : Int) = signN kind xx := by
  unfold wrap64 signN
  rw [if_neg hk]
  split <;> omega

set_option maxRecDepth 100000 in
set_option maxHeartbeats 4000000 in
theorem readPlainOf_num2 (s : ByteArray) (n : Nat) (w : World) (hn : n ≤ 20000) (hs : s.size ≤ 1000000) :
    Calls Tryd.prog 53 #[.int .i64 2, .string s, .int .i64 (n : Nat)] w fun e w' => RfRet w.heap.size (readP 2 s.data.toList n) e w' ∧ Below w.heap.size w w' := by
  have hsl : s.data.toList.length = s.size := by simp
  have hwz : wdOf 2 = 8 * 4 := rfl
  obtain ⟨X, hX⟩ : ∃ X : Nat → Nat, ∀ j, X j = unlittle s.data.toList / 2 ^ (j * (8 * 4)) % 2 ^ (8 * 4) := ⟨_, fun _ => rfl⟩
  have HM := Lib.hid (show ∀ j, j * 4 + 4 ≤ s.size → unlittle ((s.data.toList.drop (j * 4)).take 4) = X j from fun j h => by rw [hX]; exact unlittle_mid _ j 4 (by rw [hsl]; exact h))
  have HXb := Lib.hid (show ∀ j, X j < 4294967296 from fun j => by
    have h := Nat.mod_lt (unlittle s.data.toList / 2 ^ (j * (8 * 4))) (Nat.pow_pos (n := 8 * 4) (by decide : 0 < 2))
    rw [← hX j] at h
    have e : (2 : Nat) ^ (8 * 4) = 4294967296 := by decide
    rw [e] at h; exact h)
  obtain ⟨LV, hLV⟩ : ∃ LV : Nat → List Val, ∀ j, LV j = (getAll (unlittle s.data.toList) (8 * 4) j).map (numV 2) := ⟨_, fun _ => rfl⟩
  have HL0 := Lib.hid (show LV 0 = [] by rw [hLV]; rfl)
  have HLl := Lib.hid (show ∀ j, (LV j).length = j from fun j => by rw [hLV, List.length_map, getAll_len])
  have HLs := Lib.hid (show ∀ j, LV (j + 1) = LV j ++ [numV 2 (X j)] from fun j => by
    rw [hLV, hLV, show getAll (unlittle s.data.toList) (8 * 4) (j + 1) = getAll (unlittle s.data.toList) (8 * 4) j ++ [_] from rfl, List.map_append, hX]; rfl)
  have HR1 := Lib.hid (show s.size = n * 4 → readP 2 s.data.toList n = some (LV n) from fun h => by
    rw [readP_num (by decide) (by decide) (by rw [hsl, hwz, h]; omega), hwz, hLV])
  have HR2 := Lib.hid (show s.size ≠ n * 4 → readP 2 s.data.toList n = none from fun h => readP_short (by decide) (by rw [hsl, hwz]; omega))
  clear hX hLV hwz hsl
  go_enter Tryd.func53, Tryd.ntmps53
  go_wp2_with fail
  go_loopw [1, 8, 12] (fun re u i wr => ∃ (j : Nat) (r : ByteArray), j ≤ n ∧ i = .int .i64 (j : Nat) ∧ re = .string r ∧ r.data.toList = s.data.toList.drop (j * 4) ∧ j * 4 + r.size = s.size ∧ wr.ownsRow w.heap.size 29 3 u (LV j).length ((LV j).flatMap valCells) ∧ Below w.heap.size w wr) (fun _ _ i _ => n - (intOf i).toNat)
  case atStart => exact ⟨0, s, Nat.zero_le _, rfl, rfl, by rw [Nat.zero_mul]; rfl, by omega, by rw [HL0.out]; exact World.ownsRow_nil _ _ _ _, Below.refl _ _⟩
  case round =>
    obtain ⟨j, r, hj, rfl, rfl, hre, hrs, hown, hb⟩ := hrel
    have Hown := Lib.hid hown; have Hb := Lib.hid hb; have Hre := Lib.hid hre; have Hrs := Lib.hid hrs
    have hrm : r.size ≤ maxLen := by unfold maxLen; omega
    have hrs2 : r.size ≤ 1000000 := by omega
    have hbs := hb.size
    clear hown hb hre hrs
    by_cases hlt : j < n
    · have hlt' : (j : Int) < (n : Int) := by omega
      by_cases hsh : r.size < 4
      · have hshI : (r.size : Int) < 4 := by omega
        have HN := Lib.hid (show readP 2 s.data.toList n = none from HR2.out (by have := Hrs.out; omega))
        go_wp2_with fail
        go_ret2
        exact ⟨RfRet.bad HN.out rfl, Hb.out⟩
      · have hshI : ¬ (r.size : Int) < 4 := by omega
        have hshN : 4 ≤ r.size := by omega
        have HC := Lib.hid (fun w1 => show Calls Tryd.prog 80 #[.string r, .int .i64 4] w1 fun e w' => e = .returned (.int .u64 (X j : Nat)) ∧ w' = w1 from by
          have h := readLittle_any r 4 w1 (by decide) hshN hrm
          rwa [Hre.out, HM.out j (by have := Hrs.out; omega)] at h)
        have HSj := Lib.hid (HLs.out j)
        have hxb := HXb.out j
        have hll := HLl.out j
        have hl2 : (LV j).length ≤ 20000 := by omega
        generalize X j = xx at *
        generalize LV j = Lj at *
        clear hll hsh
        by_cases hhi : 2147483647 < xx
        · have hhiI : (2147483647 : Int) < (xx : Int) := by omega
          go_wp2_with fail
          refine (HC.out _).mono ?_; rintro e w3 ⟨rfl, rfl⟩
          go_wp2_with (at_builtin; refine wpList_pushVal rfl _ _ rfl w.heap.size _ Lj rfl Hown.out _ _ rfl rfl hl2 hbs (numV 2 xx) _ ?_ ?_; (focus exact cell_n ((sign_hi hhi hxb).symm)); intro v' w4 hown' hgrow' hb'; have HO4 := Lib.hid hown'; have HB4 := Lib.hid (Hb.out.trans hb'); clear hown' hgrow' hb')
          go_roundw
          case rel =>
            have hO5 := HO4.out
            rw [← HSj.out] at hO5
            refine ⟨j + 1, r.extract 4 r.size, by omega, by go_num, rfl, ?_, ?_, hO5, HB4.out⟩
            · rw [bext_list, Hre.out, List.drop_drop, Nat.add_one_mul]
            · have := Hrs.out; simp; omega
          case measure => simp [intOf]; omega
        · have hhiI : ¬ (2147483647 : Int) < (xx : Int) := by omega
          go_wp2_with fail
          refine (HC.out _).mono ?_; rintro e w3 ⟨rfl, rfl⟩
          go_wp2_with (at_builtin; refine wpList_pushVal rfl _ _ rfl w.heap.size _ Lj rfl Hown.out _ _ rfl rfl hl2 hbs (numV 2 xx) _ ?_ ?_; (focus exact cell_n ((sign_lo hhi).symm)); intro v' w4 hown' hgrow' hb'; have HO4 := Lib.hid hown'; have HB4 := Lib.hid (Hb.out.trans hb'); clear hown' hgrow' hb')
          go_roundw
          case rel =>
            have hO5 := HO4.out
            rw [← HSj.out] at hO5
            refine ⟨j + 1, r.extract 4 r.size, by omega, by go_num, rfl, ?_, ?_, hO5, HB4.out⟩
            · rw [bext_list, Hre.out, List.drop_drop, Nat.add_one_mul]
            · have := Hrs.out; simp; omega
          case measure => simp [intOf]; omega
    · obtain rfl : j = n := by omega
      rw [HLl.out j] at Hown
      obtain ⟨adu, capu, hu⟩ := bslice_form Hown.out
      subst hu
      have hie := empty_beq' r
      by_cases hr0 : r.size = 0
      · have Hie := Lib.hid (show r.toList.isEmpty = true by rw [hie]; simpa using hr0)
        have HN := Lib.hid (HR1.out (by have := Hrs.out; omega))
        clear hr0 hie
        go_wp2_with fail
        go_ret2
        exact ⟨RfRet.good HN.out (by simpa using Hie.out) (by rw [HLl.out j]; exact Hown.out), Hb.out⟩
      · have Hie := Lib.hid (show r.toList.isEmpty = false by rw [hie, decide_eq_false_iff_not]; exact hr0)
        have HN := Lib.hid (HR2.out (by have := Hrs.out; omega))
        clear hr0 hie
        go_wp2_with fail
        go_ret2
        exact ⟨RfRet.bad HN.out (by simpa using Hie.out), Hb.out⟩

set_option maxRecDepth 100000 in
set_option maxHeartbeats 4000000 in
theorem readPlainOf_num3 (s : ByteArray) (n : Nat) (w : World) (hn : n ≤ 20000) (hs : s.size ≤ 1000000) :
    Calls Tryd.prog 53 #[.int .i64 3, .string s, .int .i64 (n : Nat)] w fun e w' => RfRet w.heap.size (readP 3 s.data.toList n) e w' ∧ Below w.heap.size w w' := by
  have hsl : s.data.toList.length = s.size := by simp
  have hwz : wdOf 3 = 8 * 8 := rfl
  obtain ⟨X, hX⟩ : ∃ X : Nat → Nat, ∀ j, X j = unlittle s.data.toList / 2 ^ (j * (8 * 8)) % 2 ^ (8 * 8) := ⟨_, fun _ => rfl⟩
  have HM := Lib.hid (show ∀ j, j * 8 + 8 ≤ s.size → unlittle ((s.data.toList.drop (j * 8)).take 8) = X j from fun j h => by rw [hX]; exact unlittle_mid _ j 8 (by rw [hsl]; exact h))
  have HXb := Lib.hid (show ∀ j, X j < 18446744073709551616 from fun j => by
    have h := Nat.mod_lt (unlittle s.data.toList / 2 ^ (j * (8 * 8))) (Nat.pow_pos (n := 8 * 8) (by decide : 0 < 2))
    rw [← hX j] at h
    have e : (2 : Nat) ^ (8 * 8) = 18446744073709551616 := by decide
    rw [e] at h; exact h)
  obtain ⟨LV, hLV⟩ : ∃ LV : Nat → List Val, ∀ j, LV j = (getAll (unlittle s.data.toList) (8 * 8) j).map (numV 3) := ⟨_, fun _ => rfl⟩
  have HL0 := Lib.hid (show LV 0 = [] by rw [hLV]; rfl)
  have HLl := Lib.hid (show ∀ j, (LV j).length = j from fun j => by rw [hLV, List.length_map, getAll_len])
  have HLs := Lib.hid (show ∀ j, LV (j + 1) = LV j ++ [numV 3 (X j)] from fun j => by
    rw [hLV, hLV, show getAll (unlittle s.data.toList) (8 * 8) (j + 1) = getAll (unlittle s.data.toList) (8 * 8) j ++ [_] from rfl, List.map_append, hX]; rfl)
  have HR1 := Lib.hid (show s.size = n * 8 → readP 3 s.data.toList n = some (LV n) from fun h => by
    rw [readP_num (by decide) (by decide) (by rw [hsl, hwz, h]; omega), hwz, hLV])
  have HR2 := Lib.hid (show s.size ≠ n * 8 → readP 3 s.data.toList n = none from fun h => readP_short (by decide) (by rw [hsl, hwz]; omega))
  clear hX hLV hwz hsl
  go_enter Tryd.func53, Tryd.ntmps53
  go_wp2_with fail
  go_loopw [1, 8, 12] (fun re u i wr => ∃ (j : Nat) (r : ByteArray), j ≤ n ∧ i = .int .i64 (j : Nat) ∧ re = .string r ∧ r.data.toList = s.data.toList.drop (j * 8) ∧ j * 8 + r.size = s.size ∧ wr.ownsRow w.heap.size 29 3 u (LV j).length ((LV j).flatMap valCells) ∧ Below w.heap.size w wr) (fun _ _ i _ => n - (intOf i).toNat)
  case atStart => exact ⟨0, s, Nat.zero_le _, rfl, rfl, by rw [Nat.zero_mul]; rfl, by omega, by rw [HL0.out]; exact World.ownsRow_nil _ _ _ _, Below.refl _ _⟩
  case round =>
    obtain ⟨j, r, hj, rfl, rfl, hre, hrs, hown, hb⟩ := hrel
    have Hown := Lib.hid hown; have Hb := Lib.hid hb; have Hre := Lib.hid hre; have Hrs := Lib.hid hrs
    have hrm : r.size ≤ maxLen := by unfold maxLen; omega
    have hrs2 : r.size ≤ 1000000 := by omega
    have hbs := hb.size
    clear hown hb hre hrs
    by_cases hlt : j < n
    · have hlt' : (j : Int) < (n : Int) := by omega
      by_cases hsh : r.size < 8
      · have hshI : (r.size : Int) < 8 := by omega
        have HN := Lib.hid (show readP 3 s.data.toList n = none from HR2.out (by have := Hrs.out; omega))
        go_wp2_with fail
        go_ret2
        exact ⟨RfRet.bad HN.out rfl, Hb.out⟩
      · have hshI : ¬ (r.size : Int) < 8 := by omega
        have hshN : 8 ≤ r.size := by omega
        have HC := Lib.hid (fun w1 => show Calls Tryd.prog 80 #[.string r, .int .i64 8] w1 fun e w' => e = .returned (.int .u64 (X j : Nat)) ∧ w' = w1 from by
          have h := readLittle_any r 8 w1 (by decide) hshN hrm
          rwa [Hre.out, HM.out j (by have := Hrs.out; omega)] at h)
        have HSj := Lib.hid (HLs.out j)
        have hxb := HXb.out j
        have hll := HLl.out j
        have hl2 : (LV j).length ≤ 20000 := by omega
        generalize X j = xx at *
        generalize LV j = Lj at *
        clear hll hsh
        have hk2 : True := trivial
        go_wp2_with fail
        refine (HC.out _).mono ?_; rintro e w3 ⟨rfl, rfl⟩
        go_wp2_with (at_builtin; refine wpList_pushVal rfl _ _ rfl w.heap.size _ Lj rfl Hown.out _ _ rfl rfl hl2 hbs (numV 3 xx) _ ?_ ?_; (focus exact cell_n (sign_35 (by decide) hxb)); intro v' w4 hown' hgrow' hb'; have HO4 := Lib.hid hown'; have HB4 := Lib.hid (Hb.out.trans hb'); clear hown' hgrow' hb')
        go_roundw
        case rel =>
          have hO5 := HO4.out
          rw [← HSj.out] at hO5
          refine ⟨j + 1, r.extract 8 r.size, by omega, by go_num, rfl, ?_, ?_, hO5, HB4.out⟩
          · rw [bext_list, Hre.out, List.drop_drop, Nat.add_one_mul]
          · have := Hrs.out; simp; omega
        case measure => simp [intOf]; omega
    · obtain rfl : j = n := by omega
      rw [HLl.out j] at Hown
      obtain ⟨adu, capu, hu⟩ := bslice_form Hown.out
      subst hu
      have hie := empty_beq' r
      by_cases hr0 : r.size = 0
      · have Hie := Lib.hid (show r.toList.isEmpty = true by rw [hie]; simpa using hr0)
        have HN := Lib.hid (HR1.out (by have := Hrs.out; omega))
        clear hr0 hie
        go_wp2_with fail
        go_ret2
        exact ⟨RfRet.good HN.out (by simpa using Hie.out) (by rw [HLl.out j]; exact Hown.out), Hb.out⟩
      · have Hie := Lib.hid (show r.toList.isEmpty = false by rw [hie, decide_eq_false_iff_not]; exact hr0)
        have HN := Lib.hid (HR2.out (by have := Hrs.out; omega))
        clear hr0 hie
        go_wp2_with fail
        go_ret2
        exact ⟨RfRet.bad HN.out (by simpa using Hie.out), Hb.out⟩

set_option maxRecDepth 100000 in
set_option maxHeartbeats 4000000 in
theorem readPlainOf_num5 (s : ByteArray) (n : Nat) (w : World) (hn : n ≤ 20000) (hs : s.size ≤ 1000000) :
    Calls Tryd.prog 53 #[.int .i64 5, .string s, .int .i64 (n : Nat)] w fun e w' => RfRet w.heap.size (readP 5 s.data.toList n) e w' ∧ Below w.heap.size w w' := by
  have hsl : s.data.toList.length = s.size := by simp
  have hwz : wdOf 5 = 8 * 8 := rfl
  obtain ⟨X, hX⟩ : ∃ X : Nat → Nat, ∀ j, X j = unlittle s.data.toList / 2 ^ (j * (8 * 8)) % 2 ^ (8 * 8) := ⟨_, fun _ => rfl⟩
  have HM := Lib.hid (show ∀ j, j * 8 + 8 ≤ s.size → unlittle ((s.data.toList.drop (j * 8)).take 8) = X j from fun j h => by rw [hX]; exact unlittle_mid _ j 8 (by rw [hsl]; exact h))
  have HXb := Lib.hid (show ∀ j, X j < 18446744073709551616 from fun j => by
    have h := Nat.mod_lt (unlittle s.data.toList / 2 ^ (j * (8 * 8))) (Nat.pow_pos (n := 8 * 8) (by decide : 0 < 2))
    rw [← hX j] at h
    have e : (2 : Nat) ^ (8 * 8) = 18446744073709551616 := by decide
    rw [e] at h; exact h)
  obtain ⟨LV, hLV⟩ : ∃ LV : Nat → List Val, ∀ j, LV j = (getAll (unlittle s.data.toList) (8 * 8) j).map (numV 5) := ⟨_, fun _ => rfl⟩
  have HL0 := Lib.hid (show LV 0 = [] by rw [hLV]; rfl)
  have HLl := Lib.hid (show ∀ j, (LV j).length = j from fun j => by rw [hLV, List.length_map, getAll_len])
  have HLs := Lib.hid (show ∀ j, LV (j + 1) = LV j ++ [numV 5 (X j)] from fun j => by
    rw [hLV, hLV, show getAll (unlittle s.data.toList) (8 * 8) (j + 1) = getAll (unlittle s.data.toList) (8 * 8) j ++ [_] from rfl, List.map_append, hX]; rfl)
  have HR1 := Lib.hid (show s.size = n * 8 → readP 5 s.data.toList n = some (LV n) from fun h => by
    rw [readP_num (by decide) (by decide) (by rw [hsl, hwz, h]; omega), hwz, hLV])
  have HR2 := Lib.hid (show s.size ≠ n * 8 → readP 5 s.data.toList n = none from fun h => readP_short (by decide) (by rw [hsl, hwz]; omega))
  clear hX hLV hwz hsl
  go_enter Tryd.func53, Tryd.ntmps53
  go_wp2_with fail
  go_loopw [1, 8, 12] (fun re u i wr => ∃ (j : Nat) (r : ByteArray), j ≤ n ∧ i = .int .i64 (j : Nat) ∧ re = .string r ∧ r.data.toList = s.data.toList.drop (j * 8) ∧ j * 8 + r.size = s.size ∧ wr.ownsRow w.heap.size 29 3 u (LV j).length ((LV j).flatMap valCells) ∧ Below w.heap.size w wr) (fun _ _ i _ => n - (intOf i).toNat)
  case atStart => exact ⟨0, s, Nat.zero_le _, rfl, rfl, by rw [Nat.zero_mul]; rfl, by omega, by rw [HL0.out]; exact World.ownsRow_nil _ _ _ _, Below.refl _ _⟩
  case round =>
    obtain ⟨j, r, hj, rfl, rfl, hre, hrs, hown, hb⟩ := hrel
    have Hown := Lib.hid hown; have Hb := Lib.hid hb; have Hre := Lib.hid hre; have Hrs := Lib.hid hrs
    have hrm : r.size ≤ maxLen := by unfold maxLen; omega
    have hrs2 : r.size ≤ 1000000 := by omega
    have hbs := hb.size
    clear hown hb hre hrs
    by_cases hlt : j < n
    · have hlt' : (j : Int) < (n : Int) := by omega
      by_cases hsh : r.size < 8
      · have hshI : (r.size : Int) < 8 := by omega
        have HN := Lib.hid (show readP 5 s.data.toList n = none from HR2.out (by have := Hrs.out; omega))
        go_wp2_with fail
        go_ret2
        exact ⟨RfRet.bad HN.out rfl, Hb.out⟩
      · have hshI : ¬ (r.size : Int) < 8 := by omega
        have hshN : 8 ≤ r.size := by omega
        have HC := Lib.hid (fun w1 => show Calls Tryd.prog 80 #[.string r, .int .i64 8] w1 fun e w' => e = .returned (.int .u64 (X j : Nat)) ∧ w' = w1 from by
          have h := readLittle_any r 8 w1 (by decide) hshN hrm
          rwa [Hre.out, HM.out j (by have := Hrs.out; omega)] at h)
        have HSj := Lib.hid (HLs.out j)
        have hxb := HXb.out j
        have hll := HLl.out j
        have hl2 : (LV j).length ≤ 20000 := by omega
        generalize X j = xx at *
        generalize LV j = Lj at *
        clear hll hsh
        have hk2 : True := trivial
        go_wp2_with fail
        refine (HC.out _).mono ?_; rintro e w3 ⟨rfl, rfl⟩
        go_wp2_with (at_builtin; refine wpList_pushVal rfl _ _ rfl w.heap.size _ Lj rfl Hown.out _ _ rfl rfl hl2 hbs (numV 5 xx) _ ?_ ?_; (focus exact cell_n (sign_35 (by decide) hxb)); intro v' w4 hown' hgrow' hb'; have HO4 := Lib.hid hown'; have HB4 := Lib.hid (Hb.out.trans hb'); clear hown' hgrow' hb')
        go_roundw
        case rel =>
          have hO5 := HO4.out
          rw [← HSj.out] at hO5
          refine ⟨j + 1, r.extract 8 r.size, by omega, by go_num, rfl, ?_, ?_, hO5, HB4.out⟩
          · rw [bext_list, Hre.out, List.drop_drop, Nat.add_one_mul]
          · have := Hrs.out; simp; omega
        case measure => simp [intOf]; omega
    · obtain rfl : j = n := by omega
      rw [HLl.out j] at Hown
      obtain ⟨adu, capu, hu⟩ := bslice_form Hown.out
      subst hu
      have hie := empty_beq' r
      by_cases hr0 : r.size = 0
      · have Hie := Lib.hid (show r.toList.isEmpty = true by rw [hie]; simpa using hr0)
        have HN := Lib.hid (HR1.out (by have := Hrs.out; omega))
        clear hr0 hie
        go_wp2_with fail
        go_ret2
        exact ⟨RfRet.good HN.out (by simpa using Hie.out) (by rw [HLl.out j]; exact Hown.out), Hb.out⟩
      · have Hie := Lib.hid (show r.toList.isEmpty = false by rw [hie, decide_eq_false_iff_not]; exact hr0)
        have HN := Lib.hid (HR2.out (by have := Hrs.out; omega))
        clear hr0 hie
        go_wp2_with fail
        go_ret2
        exact ⟨RfRet.bad HN.out (by simpa using Hie.out), Hb.out⟩

end Go.Proofs.YtpbkmfnfcdhhjaaDoor
