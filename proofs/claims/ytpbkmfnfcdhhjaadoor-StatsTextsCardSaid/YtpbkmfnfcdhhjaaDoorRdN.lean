/- The walk of enc.ReadPlain at numbers. -/
import Derived.Test.YtpbkmfnfcdhhjaaDoorRdP
import Derived.Test.YtpbkmfnfcdhhjaaDoorGet64
import Derived.Test.YtpbkmfnfcdhhjaaDoorMReads
namespace Go.Proofs.YtpbkmfnfcdhhjaaDoor
set_option linter.unusedVariables false
open Go Go.RowKit Go.ChangeShapes

theorem readP_short {kind : Int} {s : List UInt8} {n : Nat} (h4 : kind ≠ 4) (h : s.length ≠ (n * wdOf kind + 7) / 8) : readP kind s n = none := by
  unfold readP
  rw [if_neg h4, if_neg (fun hh => h hh.1)]
theorem readP_num {kind : Int} {s : List UInt8} {n : Nat} (h4 : kind ≠ 4) (h1 : kind ≠ 1) (h : s.length = (n * wdOf kind + 7) / 8) : readP kind s n = some ((getAll (unlittle s) (wdOf kind) n).map (numV kind)) := by
  unfold readP
  rw [if_neg h4, if_pos ⟨h, fun c => absurd c h1⟩]
theorem sizeK (kind : Int) (wd : Nat) (hk : WdOf kind wd) (h1 : kind ≠ 1) (w : World) : Calls Tryd.prog 106 #[.int .i64 kind] w fun e w' => ∃ z : Nat, e = .returned (.int .i64 (z : Nat)) ∧ w' = w ∧ 8 * z = wd := by
  rcases hk with ⟨rfl, rfl⟩ | ⟨rfl, rfl⟩ | ⟨rfl, rfl⟩ | ⟨rfl, rfl⟩
  · exact absurd rfl h1
  · exact (sizeE 2 4 w (.inl ⟨rfl, rfl⟩)).mono fun e w' ⟨a, b⟩ => ⟨4, a, b, rfl⟩
  · exact (sizeE 3 8 w (.inr (.inl ⟨rfl, rfl⟩))).mono fun e w' ⟨a, b⟩ => ⟨8, a, b, rfl⟩
  · exact (sizeE 5 8 w (.inr (.inr ⟨rfl, rfl⟩))).mono fun e w' ⟨a, b⟩ => ⟨8, a, b, rfl⟩

theorem num2_cells (xx : Nat) (h : xx < 4294967296) : (#[.int .i64 2, .int .i64 (wrap64 (wrap32 (wrap64 (xx : Int)))), .string ⟨#[]⟩] : Array Value) = valA (numV 2 xx) := by
  have e : wrap64 (wrap32 (wrap64 (xx : Int))) = signN 2 xx := by
    unfold wrap64 wrap32 signN
    rw [if_pos rfl]
    split <;> omega
  rw [e]; rfl
theorem num35_cells (kind : Int) (xx : Nat) (hk : kind ≠ 2) (h : xx < 18446744073709551616) : (#[.int .i64 kind, .int .i64 (wrap64 (xx : Int)), .string ⟨#[]⟩] : Array Value) = valA (numV kind xx) := by
  have e : wrap64 (xx : Int) = signN kind xx := by
    unfold wrap64 signN
    rw [if_neg hk]
    split <;> omega
  rw [e]; rfl

set_option maxRecDepth 100000 in
set_option maxHeartbeats 2000000 in
theorem readPlain_short (kind : Int) (wd : Nat) (hk : WdOf kind wd) (s : ByteArray) (n : Nat) (T : TypeId) (x : Value) (w : World) (hn : n ≤ 20000) (hs : s.size ≤ 1000000) (hev : w.cell? ⟨2, 0, none⟩ = some (.iface T x)) (hb : s.size ≠ (n * wd + 7) / 8) :
    Calls Tryd.prog 78 #[.int .i64 kind, .string s, .int .i64 (n : Nat)] w fun e w' => e = .returned (.tuple #[.slice none 0 0, .iface T x]) ∧ Below w.heap.size w w' := by
  have hd : ((s.size : Int) != (((n * wd + 7) / 8 : Nat) : Int)) = true := by rw [bne_iff_ne]; omega
  rcases hk with ⟨rfl, rfl⟩ | ⟨rfl, rfl⟩ | ⟨rfl, rfl⟩ | ⟨rfl, rfl⟩
  focus
    have HK := Lib.hid (known_ok 1 n w (by decide) (by decide) (by omega) (by omega))
    have HS := Lib.hid (size0 1 w (.inl rfl))
  rotate_left
  focus
    have HK := Lib.hid (known_ok 2 n w (by decide) (by decide) (by omega) (by omega))
    have HS := Lib.hid (sizeE 2 4 w (.inl ⟨rfl, rfl⟩))
  rotate_left
  focus
    have HK := Lib.hid (known_ok 3 n w (by decide) (by decide) (by omega) (by omega))
    have HS := Lib.hid (sizeE 3 8 w (.inr (.inl ⟨rfl, rfl⟩)))
  rotate_left
  focus
    have HK := Lib.hid (known_ok 5 n w (by decide) (by decide) (by omega) (by omega))
    have HS := Lib.hid (sizeE 5 8 w (.inr (.inr ⟨rfl, rfl⟩)))
  rotate_left
  all_goals
    go_enter Tryd.func78, Tryd.ntmps78
    go_wp2_with fail
    refine HK.out.mono ?_; rintro e w1 ⟨rfl, rfl⟩
    go_wp2_with fail
    refine HS.out.mono ?_; rintro e w2 ⟨rfl, rfl⟩
    go_wp2_with fail
    go_quiet (fail)
    go_wp2_with fail
    go_ret2
    exact ⟨rfl, below_drewN (Below.refl _ _) _⟩

set_option maxRecDepth 100000 in
set_option maxHeartbeats 4000000 in
theorem readPlain_num (kind : Int) (wd : Nat) (hk : WdOf kind wd) (h1 : kind ≠ 1) (s : ByteArray) (n : Nat) (w : World) (hn : n ≤ 20000) (hs : s.size ≤ 1000000) (hb : s.size = (n * wd + 7) / 8) :
    Calls Tryd.prog 78 #[.int .i64 kind, .string s, .int .i64 (n : Nat)] w fun e w' => (∃ u, e = .returned (.tuple #[u, .nilIface]) ∧ w'.ownsRow w.heap.size 29 3 u n (((getAll (unlittle s.data.toList) wd n).map (numV kind)).flatMap valCells)) ∧ Below w.heap.size w w' := by
  obtain ⟨iv, hiv, hzv, hsv⟩ := val_info
  have hszv : (Tryd.prog.info? 29).map (·.size) = some (valA ⟨0, 0, ⟨#[]⟩⟩).size := by rw [hiv]; simp [hsv, valA]
  have hw64 : wd ≤ 64 := by unfold WdOf at hk; omega
  obtain ⟨X, hX⟩ : ∃ X : Nat → Nat, ∀ j, X j = unlittle s.data.toList / 2 ^ (j * wd) % 2 ^ wd := ⟨_, fun _ => rfl⟩
  have HG := Lib.hid (show ∀ j : Nat, j < n → ∀ w1, Calls Tryd.prog 107 #[.string s, .int .i64 ((j : Int) * (wd : Int)), .int .i64 (wd : Int)] w1 fun e w' => e = .returned (.int .u64 (X j : Nat)) ∧ w' = w1 from fun j hj w1 => by
    rw [hX j, ← Int.natCast_mul]
    exact get_any64 s (j * wd) wd w1 hw64 (by
      have h : (j + 1) * wd ≤ n * wd := Nat.mul_le_mul_right _ hj
      rw [Nat.add_one_mul] at h; omega) hs)
  have HXb := Lib.hid (show ∀ j, (kind = 2 → X j < 4294967296) ∧ X j < 18446744073709551616 from fun j => by
    have h := Nat.mod_lt (unlittle s.data.toList / 2 ^ (j * wd)) (Nat.pow_pos (n := wd) (by decide : 0 < 2))
    rw [← hX j] at h
    have e32 : (2 : Nat) ^ 32 = 4294967296 := by decide
    have e64 : (2 : Nat) ^ 64 = 18446744073709551616 := by decide
    rcases hk with ⟨hk, rfl⟩ | ⟨hk, rfl⟩ | ⟨hk, rfl⟩ | ⟨hk, rfl⟩
    · exact absurd hk h1
    · rw [e32] at h; omega
    · rw [e64] at h; omega
    · rw [e64] at h; omega)
  obtain ⟨LV, hLV⟩ : ∃ LV : Nat → List Val, ∀ j, LV j = (getAll (unlittle s.data.toList) wd j).map (numV kind) := ⟨_, fun _ => rfl⟩
  have HL0 := Lib.hid (show LV 0 = [] by rw [hLV]; rfl)
  have HLl := Lib.hid (show ∀ j, (LV j).length = j from fun j => by rw [hLV, List.length_map, getAll_len])
  have HLs := Lib.hid (show ∀ j, LV (j + 1) = LV j ++ [numV kind (X j)] from fun j => by rw [hLV, hLV, getAll_succ, List.map_append, hX]; rfl)
  rw [← hLV n]
  clear hX hLV hw64
  rcases hk with ⟨rfl, rfl⟩ | ⟨rfl, rfl⟩ | ⟨rfl, rfl⟩ | ⟨rfl, rfl⟩
  · exact absurd rfl h1
  focus
    have HK := Lib.hid (known_ok 2 n w (by decide) (by decide) (by omega) (by omega))
    have HS := Lib.hid (sizeE 2 4 w (.inl ⟨rfl, rfl⟩))
    have hd : ((s.size : Int) != ((n : Int) * 32 + 7) / 8) = false := by rw [bne_eq_false_iff_eq]; omega
  rotate_left
  focus
    have HK := Lib.hid (known_ok 3 n w (by decide) (by decide) (by omega) (by omega))
    have HS := Lib.hid (sizeE 3 8 w (.inr (.inl ⟨rfl, rfl⟩)))
    have hd : ((s.size : Int) != ((n : Int) * 64 + 7) / 8) = false := by rw [bne_eq_false_iff_eq]; omega
  rotate_left
  focus
    have HK := Lib.hid (known_ok 5 n w (by decide) (by decide) (by omega) (by omega))
    have HS := Lib.hid (sizeE 5 8 w (.inr (.inr ⟨rfl, rfl⟩)))
    have hd : ((s.size : Int) != ((n : Int) * 64 + 7) / 8) = false := by rw [bne_eq_false_iff_eq]; omega
  rotate_left
  all_goals
    have Hb := Lib.hid hb
    clear hb
    go_enter Tryd.func78, Tryd.ntmps78
    go_wp2_with fail
    refine HK.out.mono ?_; rintro e w1 ⟨rfl, rfl⟩
    go_wp2_with fail
    refine HS.out.mono ?_; rintro e w2 ⟨rfl, rfl⟩
    go_wp2_with fail
    go_loopw [1, 9, 41] (fun re u i wr => ∃ j : Nat, j ≤ n ∧ i = .int .i64 (j : Nat) ∧ re = .string s ∧ wr.ownsRow w2.heap.size 29 3 u (LV j).length ((LV j).flatMap valCells) ∧ Below w2.heap.size w2 wr) (fun _ _ i _ => n - (intOf i).toNat)
    case atStart => exact ⟨0, Nat.zero_le _, rfl, rfl, by rw [HL0.out]; exact World.ownsRow_nil _ _ _ _, Below.refl _ _⟩
    case round =>
      obtain ⟨j, hj, rfl, rfl, hown, hb⟩ := hrel
      have Hown := Lib.hid hown; have Hbb := Lib.hid hb
      clear hown hb
      by_cases hlt : j < n
      · have hlt' : (j : Int) < (n : Int) := by omega
        have HGj := Lib.hid (HG.out j hlt)
        have HSj := Lib.hid (HLs.out j)
        have HXj := Lib.hid (HXb.out j)
        have hll := HLl.out j
        have hl2 : (LV j).length ≤ 20000 := by omega
        have hbs := Hbb.out.size
        have hbs1 : w2.heap.size ≤ wr.heap.size + 1 := by omega
        have hll1 : (LV (j + 1)).length = j + 1 := HLl.out (j + 1)
        have Hll1 := Lib.hid hll1
        clear hll1
        generalize X j = xx at *
        generalize LV j = Lj at *
        clear hll
        go_wp2_with (first
          | (refine wpList_alloc_row rfl 29 rfl iv _ _ hiv hzv rfl ?_)
          | (refine wpList_store_new rfl rfl 29 _ _ rfl rfl _ #[_, .int .i64 0, .string ⟨#[]⟩] rfl hszv rfl (valA_one ⟨_, 0, ⟨#[]⟩⟩) ?_))
        refine (HGj.out _).mono ?_; rintro e w3 ⟨rfl, rfl⟩
        go_wp2_with (first
          | (at_builtin; refine wpList_pushVal rfl _ _ rfl w2.heap.size _ Lj rfl (Hown.out.alloc _) _ _ rfl ?_ hl2 ?_ (numV 2 xx) _ ?_ ?_; (focus simp); (focus simpa using hbs1); (focus (refine num2_cells xx (HXj.out.1 ?_); trivial)); intro v' w4 hown' hgrow' hb'; have HO4 := Lib.hid hown'; have HB4 := Lib.hid ((Hbb.out.alloc hbs _).trans hb'); clear hown' hgrow' hb')
          | (at_builtin; refine wpList_pushVal rfl _ _ rfl w2.heap.size _ Lj rfl (Hown.out.alloc _) _ _ rfl ?_ hl2 ?_ (numV 3 xx) _ ?_ ?_; (focus simp); (focus simpa using hbs1); (focus (refine num35_cells 3 xx ?_ HXj.out.2; decide)); intro v' w4 hown' hgrow' hb'; have HO4 := Lib.hid hown'; have HB4 := Lib.hid ((Hbb.out.alloc hbs _).trans hb'); clear hown' hgrow' hb')
          | (at_builtin; refine wpList_pushVal rfl _ _ rfl w2.heap.size _ Lj rfl (Hown.out.alloc _) _ _ rfl ?_ hl2 ?_ (numV 5 xx) _ ?_ ?_; (focus simp); (focus simpa using hbs1); (focus (refine num35_cells 5 xx ?_ HXj.out.2; decide)); intro v' w4 hown' hgrow' hb'; have HO4 := Lib.hid hown'; have HB4 := Lib.hid ((Hbb.out.alloc hbs _).trans hb'); clear hown' hgrow' hb'))
        go_roundw
        case rel =>
          have hO5 := HO4.out
          rw [← HSj.out] at hO5
          exact ⟨j + 1, by omega, by go_num, rfl, hO5, HB4.out⟩
        case measure => simp [intOf]; omega
      · obtain rfl : j = n := by omega
        rw [HLl.out j] at Hown
        obtain ⟨adu, capu, hu⟩ := bslice_form Hown.out
        subst hu
        go_wp2_with fail
        go_ret2
        exact ⟨⟨_, rfl, Hown.out⟩, Hbb.out⟩
end Go.Proofs.YtpbkmfnfcdhhjaaDoor
