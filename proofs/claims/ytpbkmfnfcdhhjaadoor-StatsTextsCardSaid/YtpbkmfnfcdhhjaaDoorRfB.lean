/- The walk of the document's ReadPlainOf at truth values; ReadPlainOf whole. -/
import Derived.Test.YtpbkmfnfcdhhjaaDoorRfN
namespace Go.Proofs.YtpbkmfnfcdhhjaaDoor
set_option linter.unusedVariables false
open Go Go.RowKit Go.ChangeShapes

theorem sign_1 {xx : Nat} (h : xx < 2) : wrap64 (xx : Int) = signN 1 xx := sign_35 (by decide) (by omega)
theorem sign_1b {xx : Nat} (h : xx < 2) : (xx : Int) = signN 1 xx := by rw [← sign_1 h]; unfold wrap64; omega
theorem getAll_at2 (V wd : Nat) : ∀ m j, j < m → (getAll V wd m)[j]? = some (V / 2 ^ (j * wd) % 2 ^ wd)
  | 0, j, h => by omega
  | m + 1, j, h => by
    show (getAll V wd m ++ [_])[j]? = _
    by_cases e : j < m
    · rw [List.getElem?_append_left (by rw [getAll_len]; exact e)]; exact getAll_at2 V wd m j e
    · obtain rfl : j = m := by omega
      rw [List.getElem?_append_right (by rw [getAll_len]; omega), getAll_len, Nat.sub_self]; rfl
set_option maxRecDepth 100000 in
set_option maxHeartbeats 4000000 in
theorem readPlainOf_bool (s : ByteArray) (n : Nat) (w : World) (hn : n ≤ 20000) (hs : s.size ≤ 1000000) :
    Calls Tryd.prog 53 #[.int .i64 1, .string s, .int .i64 (n : Nat)] w fun e w' => RfRet w.heap.size (readP 1 s.data.toList n) e w' ∧ Below w.heap.size w w' := by
  have hsl : s.data.toList.length = s.size := by simp
  obtain ⟨G, hG⟩ : ∃ G, G = getAll (unlittle s.data.toList) 1 n := ⟨_, rfl⟩
  have hGl : G.length = n := by rw [hG, getAll_len]
  have hGb : ∀ x ∈ G, x < 2 := fun x hx => by rw [hG] at hx; simpa using getAll_lt _ 1 n x hx
  have HGb := Lib.hid hGb
  have HC := Lib.hid (fun w1 => unpackOf_any64 s 1 n w1 (by decide) (by omega) hs)
  rw [← hG] at HC
  have hR1 : packed 1 G = s.data.toList → readP 1 s.data.toList n = some (G.map (numV 1)) := fun h => by
    have hl : s.data.toList.length = (n * 1 + 7) / 8 := by rw [← h, packed, bytesOf_len, hGl]
    have hlt := (packed_getAll s.data.toList 1 n hl).1 (by rw [← hG]; exact h)
    unfold readP
    rw [if_neg (by decide), if_pos ⟨hl, fun _ => by simpa using hlt⟩, hG]; rfl
  have hR2 : packed 1 G ≠ s.data.toList → readP 1 s.data.toList n = none := fun h => by
    unfold readP
    rw [if_neg (by decide), if_neg]
    intro hh
    exact h (by rw [hG]; exact (packed_getAll s.data.toList 1 n hh.1).2 (by simpa using hh.2 rfl))
  have hR3 : 8 * s.size < n → readP 1 s.data.toList n = none := fun h => by
    unfold readP
    rw [if_neg (by decide), if_neg]
    intro hh
    have := hh.1
    rw [hsl] at this
    have e : wdOf 1 = 1 := rfl
    rw [e] at this
    omega
  have HR1 := Lib.hid hR1; have HR2 := Lib.hid hR2; have HR3 := Lib.hid hR3
  have HPk := Lib.hid (show numsOf 1 (G.map (numV 1)) = G from by
    unfold numsOf
    rw [List.map_map]
    refine (List.map_congr_left fun x hx => ?_).trans (List.map_id' _)
    have hx' := hGb x hx
    show uN (numV 1 x) % 2 ^ 1 = x
    have h := uN_num 1 x (fun h => absurd h (by decide)) (by omega)
    have e : wdOf 1 = 1 := rfl
    rw [e] at h
    rw [h, Nat.pow_one, Nat.mod_eq_of_lt hx'])
  have HOk := Lib.hid (show ∀ x ∈ G.map (numV 1), OkP 1 x from fun x hx => by
    obtain ⟨y, hy, rfl⟩ := List.mem_map.1 hx
    exact (num_ok 1 y (by decide) (by decide) (by decide) (by have := hGb y hy; exact this)).2)
  have HGl := Lib.hid hGl
  clear hR1 hR2 hR3 hG hGl hGb hsl
  go_enter Tryd.func53, Tryd.ntmps53
  go_wp2_with fail
  refine (HC.out _).mono ?_; rintro e w1 ⟨hU | hU, hb1⟩
  rotate_left
  focus
    obtain ⟨hlt, rfl⟩ := hU
    have HN := Lib.hid (HR3.out (by omega))
    go_wp2_with fail
    go_ret2
    exact ⟨RfRet.bad HN.out rfl, hb1⟩
  obtain ⟨hle, uU, rfl, hou⟩ := hU
  rw [← HGl.out] at hou
  have HIu := Lib.hid (numsU_nat hou)
  obtain ⟨adU, capU, hu⟩ := bslice_form hou
  subst hu
  have Hb1 := Lib.hid hb1
  have hbs1 := hb1.size
  clear hou hb1
  go_wp2_with fail
  go_loopw [8, 11] (fun u i wr => ∃ j : Nat, j ≤ n ∧ i = .int .i64 (j : Nat) ∧ wr.ownsRow w1.heap.size 29 3 u ((G.take j).map (numV 1)).length (((G.take j).map (numV 1)).flatMap valCells) ∧ Below w1.heap.size w1 wr) (fun _ i _ => n - (intOf i).toNat)
  case atStart => exact ⟨0, Nat.zero_le _, rfl, World.ownsRow_nil _ _ _ _, Below.refl _ _⟩
  case round =>
    obtain ⟨j, hj, rfl, hown, hb⟩ := hrel
    have Hown := Lib.hid hown; have Hb := Lib.hid hb
    have hbs := hb.size
    clear hown hb
    by_cases hlt : j < n
    · have hltI : (j : Int) < (n : Int) := by omega
      have hltG : j < G.length := by rw [HGl.out]; exact hlt
      obtain ⟨b1, o1, rfl, hq1, hlt1, hc1⟩ := (HIu.out.below Hb.out (Nat.le_refl _)).at (by rw [show (ints G).length = G.length from List.length_map _]; omega)
      have hcp := hc1 j ((G[j] : Nat) : Int) (by rw [show ints G = G.map (fun (q : Nat) => (q : Int)) from rfl, List.getElem?_map, List.getElem?_eq_getElem hltG]; rfl)
      have hpb := HGb.out _ (List.getElem_mem hltG)
      have htk : G.take (j + 1) = G.take j ++ [G[j]] := List.take_succ_eq_append_getElem hltG
      have hl2 : ((G.take j).map (numV 1)).length ≤ 20000 := by rw [List.length_map, List.length_take]; omega
      have hltGI : (j : Int) < (G.length : Int) := by omega
      generalize G[j] = p at *
      have Htk := Lib.hid htk
      clear hc1 htk hq1
      go_wp2_with (at_builtin; refine wpList_pushVal rfl _ _ rfl w1.heap.size _ ((G.take j).map (numV 1)) rfl Hown.out _ _ rfl rfl hl2 hbs (numV 1 p) _ ?_ ?_; (focus (first | exact cell_n (sign_1 hpb) | exact cell_n (sign_1b hpb))); intro v' w8 hown' hgrow' hb'; have HO8 := Lib.hid hown'; have HB8 := Lib.hid (Hb.out.trans hb'); clear hown' hgrow' hb')
      go_roundw
      case rel =>
        have hO9 := HO8.out
        rw [show (G.take j).map (numV 1) ++ [numV 1 p] = (G.take (j + 1)).map (numV 1) by rw [Htk.out]; simp] at hO9
        exact ⟨j + 1, by omega, by go_num, hO9, HB8.out⟩
      case measure => simp [intOf]; omega
    · obtain rfl : j = n := by omega
      rw [List.take_of_length_le (by rw [HGl.out]; exact Nat.le_refl _)] at Hown
      have HIl := Lib.hid (IsVals.of_own Hown.out)
      have HPO := Lib.hid (fun v => fun (h : IsVals wr v (G.map (numV 1))) => plainOf_bools v (G.map (numV 1)) wr h (by rw [List.length_map, HGl.out]; exact hn) HOk.out)
      rw [HPk.out] at HPO
      have hml : (G.map (numV 1)).length = j := by rw [List.length_map, HGl.out]
      rw [hml] at Hown
      obtain ⟨adl, capl, hul⟩ := bslice_form Hown.out
      subst hul
      clear hml
      by_cases he : packed 1 G = s.data.toList
      · have HN := Lib.hid (HR1.out he)
        have hq : (packed 1 G == s.toList) = true := by rw [ByteArray.toList_eq, beq_iff_eq]; exact he
        clear he
        go_wp2_with fail
        refine (HPO.out _ HIl.out).mono ?_; rintro e w2 ⟨rfl, hb2⟩
        have Ho2 := Lib.hid (bown_below Hown.out hb2)
        have Hb2 := Lib.hid ((Hb1.out.trans (Hb.out.mono hbs1)).trans (hb2.mono (Nat.le_trans hbs1 hbs)))
        clear hb2
        go_wp2_with fail
        go_ret2
        exact ⟨RfRet.good HN.out (by first | rfl | simp [hq]) (by rw [List.length_map, HGl.out]; exact bown_base2 Ho2.out hbs1), Hb2.out⟩
      · have HN := Lib.hid (HR2.out he)
        have hq : (packed 1 G == s.toList) = false := by rw [ByteArray.toList_eq, beq_eq_false_iff_ne]; exact he
        clear he
        go_wp2_with fail
        refine (HPO.out _ HIl.out).mono ?_; rintro e w2 ⟨rfl, hb2⟩
        have Hb2 := Lib.hid ((Hb1.out.trans (Hb.out.mono hbs1)).trans (hb2.mono (Nat.le_trans hbs1 hbs)))
        clear hb2
        go_wp2_with fail
        go_ret2
        exact ⟨RfRet.bad HN.out (by first | rfl | simp [hq]), Hb2.out⟩
/-- ReadPlainOf whole -/
theorem readPlainOf_any (kind : Int) (s : ByteArray) (n : Nat) (w : World) (h1 : 1 ≤ kind) (h5 : kind ≤ 5) (hn : n ≤ 20000) (hs : s.size ≤ 1000000) :
    Calls Tryd.prog 53 #[.int .i64 kind, .string s, .int .i64 (n : Nat)] w fun e w' => RfRet w.heap.size (readP kind s.data.toList n) e w' ∧ Below w.heap.size w w' := by
  have : kind = 1 ∨ kind = 2 ∨ kind = 3 ∨ kind = 4 ∨ kind = 5 := by omega
  rcases this with rfl | rfl | rfl | rfl | rfl
  · exact readPlainOf_bool s n w hn hs
  · exact readPlainOf_num2 s n w hn hs
  · exact readPlainOf_num3 s n w hn hs
  · exact readPlainOf_texts s n w hn hs
  · exact readPlainOf_num5 s n w hn hs
end Go.Proofs.YtpbkmfnfcdhhjaaDoor
