/- The walk of enc.ReadPlain at texts. -/
import Derived.Test.YtpbkmfnfcdhhjaaDoorRd0
namespace Go.Proofs.YtpbkmfnfcdhhjaaDoor
set_option linter.unusedVariables false
open Go Go.RowKit Go.ChangeShapes

theorem readTs_step {n k : Nat} {s t : List UInt8} (h : readT s = some (t, k)) (h100 : ¬ 100 < t.length) : readTs (n + 1) s = (readTs n (s.drop k)).map (textV t :: ·) := by
  rw [readTs, h]; simp only []; rw [if_neg h100]
set_option maxRecDepth 100000 in
theorem size0 (kind : Int) (w : World) (h : kind = 1 ∨ kind = 4) :
    Calls Tryd.prog 106 #[.int .i64 kind] w fun e w' => e = .returned (.int .i64 0) ∧ w' = w := by
  rcases h with rfl | rfl
  all_goals
    go_enter Tryd.func106, Tryd.ntmps106
    go_wp2_with fail
    go_ret
    exact ⟨rfl, rfl⟩

set_option maxRecDepth 100000 in
set_option maxHeartbeats 1000000 in
theorem readPlain_err (kind n : Int) (s : ByteArray) (w : World) (adr : Nat → Addr) (hE : ErrsAt w adr [2, 4]) (h : kind < 1 ∨ 5 < kind ∨ n < 0 ∨ 20000 < n) :
    Calls Tryd.prog 78 #[.int .i64 kind, .string s, .int .i64 n] w fun e w' => (∃ u, e = .returned (.tuple #[.slice none 0 0, u]) ∧ IsErr w' adr (manyErr kind n) u) ∧ w' = w := by
  have HC := Lib.hid (known_any kind n w adr hE)
  have HN := Lib.hid (show manyErr kind n ≠ .nil by unfold manyErr; split; · simp
                                                    split; · simp
                                                    omega)
  clear hE h
  go_enter Tryd.func78, Tryd.ntmps78
  go_wp2_with fail
  refine HC.out.mono ?_; rintro e w1 ⟨⟨u, rfl, hu⟩, rfl⟩
  have HU := Lib.hid hu
  obtain ⟨T, a, rfl, hT⟩ := hu.some' HN.out
  clear hu
  rcases hT with rfl | rfl
  all_goals
    go_wp2_with fail
    go_ret2
    exact ⟨⟨_, rfl, HU.out⟩, rfl⟩

set_option maxRecDepth 100000 in
set_option maxHeartbeats 4000000 in
theorem readPlain_texts (s : ByteArray) (n : Nat) (T : TypeId) (x : Value) (w : World) (hn : n ≤ 20000) (hs : s.size ≤ 1000000) (hev : w.cell? ⟨2, 0, none⟩ = some (.iface T x)) :
    Calls Tryd.prog 78 #[.int .i64 4, .string s, .int .i64 (n : Nat)] w fun e w' => RdRet (.iface T x) w.heap.size (readTs n s.data.toList) e w' ∧ Below w.heap.size w w' := by
  obtain ⟨iv, hiv, hzv, hsv⟩ := val_info
  have hszv : (Tryd.prog.info? 29).map (·.size) = some (valA ⟨0, 0, ⟨#[]⟩⟩).size := by rw [hiv]; simp [hsv, valA]
  have hsz : (2 : Nat) < w.heap.size := block_lt_of_cell hev
  have Hsz := Lib.hid hsz; have Hev := Lib.hid hev
  have HK := Lib.hid (known_ok 4 n w (by decide) (by decide) (by omega) (by omega))
  have HS := Lib.hid (size0 4 w (.inr rfl))
  clear hsz hev
  go_enter Tryd.func78, Tryd.ntmps78
  go_wp2_with fail
  refine HK.out.mono ?_; rintro e w1 ⟨rfl, rfl⟩
  go_wp2_with fail
  refine HS.out.mono ?_; rintro e w2 ⟨rfl, rfl⟩
  go_wp2_with fail
  go_loopw [1, 9, 41] (fun re u i wr => ∃ (L : List Val) (r : ByteArray), L.length ≤ n ∧ i = .int .i64 (L.length : Nat) ∧ re = .string r ∧ r.size ≤ s.size ∧
    wr.ownsRow w2.heap.size 29 3 u L.length (L.flatMap valCells) ∧ Below w2.heap.size w2 wr ∧
    readTs n s.data.toList = (readTs (n - L.length) r.data.toList).map (L ++ ·)) (fun _ _ i _ => n - (intOf i).toNat)
  case atStart => exact ⟨[], s, Nat.zero_le _, rfl, rfl, Nat.le_refl _, World.ownsRow_nil _ _ _ _, Below.refl _ _, by simp⟩
  case round =>
    obtain ⟨L, r, hLn, rfl, rfl, hrs, hown, hb, hinv⟩ := hrel
    have hevr := (hb.cell (p := ⟨2, 0, none⟩) Hsz.out).trans Hev.out
    have Hinv := Lib.hid hinv; have Hown := Lib.hid hown; have Hb := Lib.hid hb
    have hrm : r.size ≤ maxLen := by unfold maxLen; omega
    clear hinv hown hb
    by_cases hlt : L.length < n
    · have hlt' : (L.length : Int) < (n : Int) := by omega
      obtain ⟨lf, hlf⟩ : ∃ lf, n - L.length = lf + 1 := ⟨n - L.length - 1, by omega⟩
      have Hlf := Lib.hid hlf
      rw [hlf] at Hinv
      clear hlf
      have hevA : (wr.alloc (.cells (valA ⟨4, 0, ⟨#[]⟩⟩) 29)).cell? ⟨2, 0, none⟩ = some (.iface T x) :=
        ((((Below.refl wr.heap.size wr).alloc (Nat.le_refl _) _).cell (p := ⟨2, 0, none⟩) (block_lt_of_cell hevr))).trans hevr
      have HevA := Lib.hid hevA
      have HbA := Lib.hid ((Below.refl wr.heap.size wr).alloc (Nat.le_refl _) (.cells (valA ⟨4, 0, ⟨#[]⟩⟩) 29))
      have HnA := Lib.hid (heap_alloc_new wr (.cells (valA ⟨4, 0, ⟨#[]⟩⟩) 29))
      clear hevA
      cases hT : readT r.data.toList with
      | none =>
        have hc := fun w1 hh => readText_none r T x w1 hrm hh hT
        have Hc := Lib.hid hc
        have HN := Lib.hid (show readTs (lf + 1) r.data.toList = none by unfold readTs; rw [hT])
        clear hc hT
        go_wp2_with (first
          | (refine wpList_alloc_row rfl 29 rfl iv _ _ hiv hzv rfl ?_)
          | (refine wpList_store_new rfl rfl 29 _ _ rfl rfl _ (valA ⟨4, 0, ⟨#[]⟩⟩) rfl hszv rfl (valA_one ⟨4, 0, ⟨#[]⟩⟩) ?_))
        refine (Hc.out _ HevA.out).mono ?_; rintro e w1 ⟨rfl, hb1⟩
        have hev1 := (hb1.cell (p := ⟨2, 0, none⟩) (block_lt_of_cell HevA.out)).trans HevA.out
        have hbw1 := Hb.out.trans ((HbA.out.trans (hb1.mono HbA.out.size)).mono Hb.out.size)
        go_wp2_with fail
        go_quiet (fail)
        go_wp2_with fail
        go_ret2
        exact ⟨RdRet.bad (by rw [Hinv.out, HN.out]; rfl), below_drewN hbw1 _⟩
      | some y =>
        obtain ⟨t, k⟩ := y
        have hc := fun w1 hh => readText_some r T x w1 hrm hh hT
        have Hc := Lib.hid hc
        obtain ⟨_, htk, ht2, hkr⟩ := readT_inv hT
        have hrl : r.data.toList.length = r.size := by simp
        rw [hrl] at hkr
        have HT := Lib.hid hT
        clear hc hT hrl htk
        by_cases h100 : 100 < t.length
        · have HN := Lib.hid (show readTs (lf + 1) r.data.toList = none by unfold readTs; rw [HT.out]; simp only []; rw [if_pos h100])
          have h100' : (100 : Int) < (t.length : Int) := by omega
          go_wp2_with (first
            | (refine wpList_alloc_row rfl 29 rfl iv _ _ hiv hzv rfl ?_)
            | (refine wpList_store_new rfl rfl 29 _ _ rfl rfl _ (valA ⟨4, 0, ⟨#[]⟩⟩) rfl hszv rfl (valA_one ⟨4, 0, ⟨#[]⟩⟩) ?_))
          refine (Hc.out _ HevA.out).mono ?_; rintro e w1 ⟨rfl, hb1⟩
          have hev1 := (hb1.cell (p := ⟨2, 0, none⟩) (block_lt_of_cell HevA.out)).trans HevA.out
          have hbw1 := Hb.out.trans ((HbA.out.trans (hb1.mono HbA.out.size)).mono Hb.out.size)
          go_wp2_with fail
          go_quiet (fail)
          go_wp2_with fail
          go_ret2
          exact ⟨RdRet.bad (by rw [Hinv.out, HN.out]; rfl), below_drewN hbw1 _⟩
        · have HN := Lib.hid (show readTs (lf + 1) r.data.toList = (readTs lf (r.data.toList.drop k)).map (textV t :: ·) from readTs_step HT.out h100)
          have h100' : (t.length : Int) ≤ 100 := by omega
          have hl2 : L.length ≤ 20000 := by omega
          have hkI : (k : Int) ≤ (r.size : Int) := by omega
          go_wp2_with (first
            | (refine wpList_alloc_row rfl 29 rfl iv _ _ hiv hzv rfl ?_)
            | (refine wpList_store_new rfl rfl 29 _ _ rfl rfl _ (valA ⟨4, 0, ⟨#[]⟩⟩) rfl hszv rfl (valA_one ⟨4, 0, ⟨#[]⟩⟩) ?_))
          refine (Hc.out _ HevA.out).mono ?_; rintro e w1 ⟨rfl, hb1⟩
          have hbw1 := Hb.out.trans ((HbA.out.trans (hb1.mono HbA.out.size)).mono Hb.out.size)
          have hg1 : w1.heap[wr.heap.size]? = some (.cells (valA ⟨4, 0, ⟨#[]⟩⟩) 29 (0, 0)) := (hb1.block _ (Array.getElem?_eq_some_iff.1 HnA.out).1).trans HnA.out
          have hown1 := bown_below (Hown.out.alloc (.cells (valA ⟨4, 0, ⟨#[]⟩⟩) 29)) hb1
          have c2 : w1.cell? ⟨wr.heap.size, 2, none⟩ = some (.string ⟨#[]⟩) := by rw [Lib.cell_of_heap hg1]; rfl
          have f2 : w1.frozen? ⟨wr.heap.size, 2, none⟩ = false := Lib.frozen_of_heap hg1 2
          have HB1 := Lib.hid hbw1; have HG1 := Lib.hid hg1; have HO1 := Lib.hid hown1
          clear hbw1 hg1 hown1 hb1
          go_wp2_with fail
          go_region
          have HG3 := Lib.hid (show (w1.setCell ⟨wr.heap.size, 2, none⟩ (.string ⟨t.toArray⟩)).drew.heap[wr.heap.size]? = some (.cells (valA (textV t)) 29 (0, 0)) by
            show (w1.setCell ⟨wr.heap.size, 2, none⟩ (.string ⟨t.toArray⟩)).heap[wr.heap.size]? = _
            rw [heap_setCell_same _ _ _ _ _ _ HG1.out]; rfl)
          have HO3 := Lib.hid (show (w1.setCell ⟨wr.heap.size, 2, none⟩ (.string ⟨t.toArray⟩)).drew.ownsRow w2.heap.size 29 3 u9 L.length (L.flatMap valCells) from (bown_set' HO1.out HG1.out (own_notlast Hown.out) _).drew)
          have HB3 := Lib.hid (show Below w2.heap.size w2 (w1.setCell ⟨wr.heap.size, 2, none⟩ (.string ⟨t.toArray⟩)).drew from (HB1.out.setCell (p := ⟨wr.heap.size, 2, none⟩) Hb.out.size _).drew)
          have hbs3 := HB3.out.size
          have hvs : (valA (textV t)).size = 3 := rfl
          clear c2 f2
          generalize (w1.setCell ⟨wr.heap.size, 2, none⟩ (.string ⟨t.toArray⟩)).drew = w3 at *
          go_wp2_with (first
            | (refine wpList_load_row rfl 29 _ rfl wr.heap.size rfl 29 (valA (textV t)) (0, 0) _ HG3.out Tryd.underlying29 rfl hszv ?_)
            | (at_builtin; refine wpList_pushVal rfl _ _ rfl w2.heap.size _ L rfl HO3.out _ _ rfl rfl hl2 hbs3 (textV t) _ rfl ?_; intro v' w4 hown' hgrow' hb'; have HO4 := Lib.hid hown'; have HB4 := Lib.hid (HB3.out.trans hb'); clear hown' hgrow' hb'))
          have hl1 : (L ++ [textV t]).length = L.length + 1 := by simp
          refine ⟨⟨L ++ [textV t], r.extract k r.size, by omega, by rw [hl1]; rfl, rfl, by simp; omega, HO4.out, HB4.out, ?_⟩, ?_⟩
          · rw [Hinv.out, HN.out, Option.map_map, bext_list, hl1, show n - (L.length + 1) = lf by have := Hlf.out; omega]
            congr 1
            funext y
            simp
          · simp [intOf]; omega
    · obtain rfl : L.length = n := by omega
      rw [Nat.sub_self] at Hinv
      obtain ⟨adu, capu, rfl⟩ := bslice_form Hown.out
      by_cases hr0 : r.size = 0
      · obtain rfl := empty_list hr0
        have HR := Lib.hid (show readTs L.length s.data.toList = some L by rw [Hinv.out]; simp [readTs])
        go_wp2_with fail
        go_ret2
        exact ⟨RdRet.good HR.out Hown.out, Hb.out⟩
      · have hne : ¬ r = ⟨#[]⟩ := fun e => hr0 (by rw [e]; rfl)
        have HR := Lib.hid (show readTs L.length s.data.toList = none by
          rw [Hinv.out]
          have : r.data.toList ≠ [] := by intro e; apply hr0; rw [← size_data, e]; rfl
          simp [readTs, this])
        have HR0 := Lib.hid hr0
        clear hr0
        go_wp2_with fail
        focus
          rename_i h0
          exfalso
          have e := toList_inj (h0.trans ByteArray.toList_empty.symm)
          exact HR0.out (by rw [e]; rfl)
        focus
          go_quiet (fail)
          go_wp2_with fail
          go_ret2
          exact ⟨RdRet.bad HR.out, below_drewN Hb.out _⟩
end Go.Proofs.YtpbkmfnfcdhhjaaDoor
