/- The walk of enc.ReadPlain at truth values; ReadPlain whole. -/
import Derived.Test.YtpbkmfnfcdhhjaaDoorRdN
namespace Go.Proofs.YtpbkmfnfcdhhjaaDoor
set_option linter.unusedVariables false
open Go Go.RowKit Go.ChangeShapes

theorem num1_cells (xx : Nat) (h : xx < 2) : (#[.int .i64 1, .int .i64 (wrap64 (xx : Int)), .string ⟨#[]⟩] : Array Value) = valA (numV 1 xx) := num35_cells 1 xx (by decide) (by omega)
/-- no bit above the last one -/
theorem bool_rest (s : List UInt8) (n : Nat) (b : UInt8) (h : s.length = (n + 7) / 8) (h8 : n % 8 ≠ 0) (hb : s[n / 8]? = some b) : (unlittle s < 2 ^ n ↔ b.toNat / 2 ^ (n % 8) = 0) := by
  have hlen : n / 8 < s.length := (List.getElem?_eq_some_iff.1 hb).1
  have e : s = s.take (n / 8) ++ [b] := by
    have h1 := List.take_append_drop (n / 8) s
    have h2 : s.drop (n / 8) = [b] := by
      rw [List.drop_eq_getElem_cons hlen, (List.getElem?_eq_some_iff.1 hb).2, List.drop_of_length_le (by omega)]
    rw [← h2, h1]
  have ht : (s.take (n / 8)).length = n / 8 := by rw [List.length_take]; omega
  have hlt := unlittle_lt (s.take (n / 8))
  rw [e, unlittle_append]
  rw [ht] at hlt ⊢
  have hp : (2 : Nat) ^ n = 256 ^ (n / 8) * 2 ^ (n % 8) := by rw [← pow256, ← Nat.pow_add]; congr 1; omega
  have hu : unlittle [b] = b.toNat := by simp [unlittle]
  rw [hp, hu]
  have hpos : 0 < 256 ^ (n / 8) := Nat.pow_pos (by decide)
  have hpos2 : 0 < 2 ^ (n % 8) := Nat.pow_pos (by decide)
  generalize 256 ^ (n / 8) = A at *
  generalize 2 ^ (n % 8) = C at *
  constructor
  · intro hh
    refine Nat.div_eq_of_lt ?_
    rcases Nat.lt_or_ge b.toNat C with h' | h'
    · exact h'
    · have := Nat.mul_le_mul_left A h'
      omega
  · intro hh
    have : b.toNat < C := by
      rcases Nat.lt_or_ge b.toNat C with h' | h'
      · exact h'
      · have := Nat.div_pos h' hpos2; omega
    have h2 := Nat.mul_le_mul_left A (show b.toNat + 1 ≤ C from this)
    rw [Nat.mul_add, Nat.mul_one] at h2
    omega
theorem bool_rest0 (s : List UInt8) (n : Nat) (h : s.length = (n + 7) / 8) (h8 : n % 8 = 0) : unlittle s < 2 ^ n := by
  have hlt := unlittle_lt s
  rw [← pow256, show 8 * s.length = n by omega] at hlt
  exact hlt

set_option maxRecDepth 100000 in
set_option maxHeartbeats 4000000 in
theorem readPlain_bool (s : ByteArray) (n : Nat) (w : World) (T : TypeId) (x : Value) (hn : n ≤ 20000) (hs : s.size ≤ 1000000) (hev : w.cell? ⟨2, 0, none⟩ = some (.iface T x)) (hb : s.size = (n + 7) / 8) :
    Calls Tryd.prog 78 #[.int .i64 1, .string s, .int .i64 (n : Nat)] w fun e w' => RdRet (.iface T x) w.heap.size (readP 1 s.data.toList n) e w' ∧ Below w.heap.size w w' := by
  obtain ⟨iv, hiv, hzv, hsv⟩ := val_info
  have hszv : (Tryd.prog.info? 29).map (·.size) = some (valA ⟨0, 0, ⟨#[]⟩⟩).size := by rw [hiv]; simp [hsv, valA]
  have hsl : s.data.toList.length = s.size := by simp
  have hsz : (2 : Nat) < w.heap.size := block_lt_of_cell hev
  have Hsz := Lib.hid hsz; have Hev := Lib.hid hev
  obtain ⟨X, hX⟩ : ∃ X : Nat → Nat, ∀ j, X j = unlittle s.data.toList / 2 ^ (j * 1) % 2 ^ 1 := ⟨_, fun _ => rfl⟩
  have HG := Lib.hid (show ∀ j : Nat, j < n → ∀ w1, Calls Tryd.prog 107 #[.string s, .int .i64 (j : Int), .int .i64 1] w1 fun e w' => e = .returned (.int .u64 (X j : Nat)) ∧ w' = w1 from fun j hj w1 => by
    rw [hX j, Nat.mul_one]
    exact get_any64 s j 1 w1 (by decide) (by omega) hs)
  have HXb := Lib.hid (show ∀ j, X j < 2 from fun j => by
    have h := Nat.mod_lt (unlittle s.data.toList / 2 ^ (j * 1)) (Nat.pow_pos (n := 1) (by decide : 0 < 2))
    rw [← hX j, Nat.pow_one] at h
    exact h)
  obtain ⟨LV, hLV⟩ : ∃ LV : Nat → List Val, ∀ j, LV j = (getAll (unlittle s.data.toList) 1 j).map (numV 1) := ⟨_, fun _ => rfl⟩
  have HL0 := Lib.hid (show LV 0 = [] by rw [hLV]; rfl)
  have HLl := Lib.hid (show ∀ j, (LV j).length = j from fun j => by rw [hLV, List.length_map, getAll_len])
  have HLs := Lib.hid (show ∀ j, LV (j + 1) = LV j ++ [numV 1 (X j)] from fun j => by rw [hLV, hLV, getAll_succ, List.map_append, hX]; rfl)
  have hl1 : s.data.toList.length = (n * wdOf 1 + 7) / 8 := by rw [hsl, hb]; show _ = (n * 1 + 7) / 8; rw [Nat.mul_one]
  have HR1 := Lib.hid (show unlittle s.data.toList < 2 ^ n → readP 1 s.data.toList n = some (LV n) from fun h => by
    unfold readP
    rw [if_neg (by decide), if_pos ⟨hl1, fun _ => h⟩, hLV]; rfl)
  have HR2 := Lib.hid (show ¬ unlittle s.data.toList < 2 ^ n → readP 1 s.data.toList n = none from fun h => by
    unfold readP
    rw [if_neg (by decide), if_neg (fun hh => h (hh.2 rfl))])
  have HB0 := Lib.hid (show n % 8 = 0 → unlittle s.data.toList < 2 ^ n from fun h => bool_rest0 _ n (by rw [hsl, hb]) h)
  have HB1 := Lib.hid (show n % 8 ≠ 0 → ∀ (h : n / 8 < s.size), (unlittle s.data.toList < 2 ^ n ↔ s[n / 8].toNat / 2 ^ (n % 8) = 0) from fun h h' => bool_rest _ n _ (by rw [hsl, hb]) h (by rw [List.getElem?_eq_getElem (by rw [hsl]; exact h')]; rfl))
  have HK := Lib.hid (known_ok 1 n w (by decide) (by decide) (by omega) (by omega))
  have HS := Lib.hid (size0 1 w (.inl rfl))
  have hd : ((s.size : Int) != ((n : Int) + 7) / 8) = false := by rw [bne_eq_false_iff_eq]; omega
  have Hb := Lib.hid hb
  clear hX hLV hl1 hsl hsz hev hb
  go_enter Tryd.func78, Tryd.ntmps78
  go_wp2_with fail
  refine HK.out.mono ?_; rintro e w1 ⟨rfl, rfl⟩
  go_wp2_with fail
  refine HS.out.mono ?_; rintro e w2 ⟨rfl, rfl⟩
  go_wp2_with fail
  go_loopw [1, 9, 41] (fun re u i wr => ∃ j : Nat, j ≤ n ∧ i = .int .i64 (j : Nat) ∧ re = .string s ∧ wr.ownsRow w2.heap.size 29 3 u (LV j).length ((LV j).flatMap valCells) ∧ Below w2.heap.size w2 wr) (fun _ _ i _ => n - (intOf i).toNat)
  case atStart => exact ⟨0, Nat.zero_le _, rfl, rfl, by rw [HL0.out]; exact World.ownsRow_nil _ _ _ _, Below.refl _ _⟩
  case round =>
    obtain ⟨j, hj, rfl, rfl, hown, hb⟩ := hrel
    have Hown := Lib.hid hown; have Hbb := Lib.hid hb
    clear hown hb
    by_cases hlt : j < n
    · have hlt' : (j : Int) < (n : Int) := by omega
      have HGj := Lib.hid (HG.out j hlt)
      have HSj := Lib.hid (HLs.out j)
      have HXj := Lib.hid (HXb.out j)
      have hll := HLl.out j
      have hl2 : (LV j).length ≤ 20000 := by omega
      have hbs := Hbb.out.size
      have hbs1 : w2.heap.size ≤ wr.heap.size + 1 := by omega
      generalize X j = xx at *
      generalize LV j = Lj at *
      clear hll
      go_wp2_with (first
        | (refine wpList_alloc_row rfl 29 rfl iv _ _ hiv hzv rfl ?_)
        | (refine wpList_store_new rfl rfl 29 _ _ rfl rfl _ #[_, .int .i64 0, .string ⟨#[]⟩] rfl hszv rfl (valA_one ⟨_, 0, ⟨#[]⟩⟩) ?_))
      refine (HGj.out _).mono ?_; rintro e w3 ⟨rfl, rfl⟩
      go_wp2_with (at_builtin; refine wpList_pushVal rfl _ _ rfl w2.heap.size _ Lj rfl (Hown.out.alloc _) _ _ rfl ?_ hl2 ?_ (numV 1 xx) _ ?_ ?_; (focus simp); (focus simpa using hbs1); (focus exact num1_cells xx HXj.out); intro v' w4 hown' hgrow' hb'; have HO4 := Lib.hid hown'; have HB4 := Lib.hid ((Hbb.out.alloc hbs _).trans hb'); clear hown' hgrow' hb')
      go_roundw
      case rel =>
        have hO5 := HO4.out
        rw [← HSj.out] at hO5
        exact ⟨j + 1, by omega, by go_num, rfl, hO5, HB4.out⟩
      case measure => simp [intOf]; omega
    · obtain rfl : j = n := by omega
      have hbj := Hb.out
      obtain ⟨adu, capu, hu⟩ := bslice_form Hown.out
      subst hu
      by_cases h8 : j % 8 = 0
      · have d8 : decide ((0 : Int) < (j : Int) % 8) = false := by simp; omega
        have HR := Lib.hid (HR1.out (HB0.out h8))
        go_wp2_with fail
        go_ret2
        exact ⟨RdRet.good HR.out Hown.out, Hbb.out⟩
      · have hq : j / 8 < s.size := by omega
        have d8 : decide ((0 : Int) < (j : Int) % 8) = true := by simp; omega
        have hqI : (j : Int) / 8 < (s.size : Int) := by omega
        have hq2 : ((j : Int) / 8).toNat = j / 8 := by omega
        have hq0 : (0 : Int) ≤ (j : Int) / 8 := by omega
        have HBB := Lib.hid (HB1.out h8 hq)
        have hevr := (Hbb.out.cell (p := ⟨2, 0, none⟩) Hsz.out).trans Hev.out
        by_cases hz : s[j / 8].toNat / 2 ^ (j % 8) = 0
        · have HR := Lib.hid (HR1.out (HBB.out.2 hz))
          have dz : ((s[j / 8].toNat : Int) / 2 ^ (j % 8) != 0) = false := by
            rw [show ((2 : Int) ^ (j % 8)) = ((2 ^ (j % 8) : Nat) : Int) by simp, ← Int.natCast_ediv, hz]; rfl
          clear hz
          go_wp2_with fail
          go_ret2
          exact ⟨RdRet.good HR.out Hown.out, Hbb.out⟩
        · have HR := Lib.hid (HR2.out (fun hh => hz (HBB.out.1 hh)))
          have dz : ((s[j / 8].toNat : Int) / 2 ^ (j % 8) != 0) = true := by
            rw [show ((2 : Int) ^ (j % 8)) = ((2 ^ (j % 8) : Nat) : Int) by simp, ← Int.natCast_ediv, bne_iff_ne]; omega
          clear hz
          go_wp2_with fail
          go_quiet (fail)
          go_wp2_with fail
          go_ret2
          exact ⟨RdRet.bad HR.out, below_drewN Hbb.out _⟩
/-- ReadPlain whole -/
theorem readPlain_any (kind : Int) (s : ByteArray) (n : Nat) (T : TypeId) (x : Value) (w : World) (h1 : 1 ≤ kind) (h5 : kind ≤ 5) (hn : n ≤ 20000) (hs : s.size ≤ 1000000) (hev : w.cell? ⟨2, 0, none⟩ = some (.iface T x)) :
    Calls Tryd.prog 78 #[.int .i64 kind, .string s, .int .i64 (n : Nat)] w fun e w' => RdRet (.iface T x) w.heap.size (readP kind s.data.toList n) e w' ∧ Below w.heap.size w w' := by
  have hsl : s.data.toList.length = s.size := by simp
  by_cases h4 : kind = 4
  · subst h4
    exact readPlain_texts s n T x w hn hs hev
  · have hk := wdOf_is h1 h5 h4
    by_cases hb : s.size = (n * wdOf kind + 7) / 8
    · by_cases hk1 : kind = 1
      · subst hk1
        exact readPlain_bool s n w T x hn hs hev (by rw [hb]; show (n * 1 + 7) / 8 = _; rw [Nat.mul_one])
      · refine (readPlain_num kind _ hk hk1 s n w hn hs hb).mono ?_
        rintro e w' ⟨⟨u, rfl, ho⟩, hbw⟩
        refine ⟨RdRet.good (readP_num h4 hk1 (by rw [hsl]; exact hb)) ?_, hbw⟩
        rw [List.length_map, getAll_len]
        exact ho
    · refine (readPlain_short kind _ hk s n T x w hn hs hev hb).mono ?_
      rintro e w' ⟨rfl, hbw⟩
      exact ⟨RdRet.bad (readP_short h4 (by rw [hsl]; exact hb)), hbw⟩
end Go.Proofs.YtpbkmfnfcdhhjaaDoor
