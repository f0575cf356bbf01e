/- The walk of the document's ReadPlainOf. -/
import Derived.Test.YtpbkmfnfcdhhjaaDoorRdB
import Derived.Test.YtpbkmfnfcdhhjaaDoorMRef
import Derived.Test.YtpbkmfnfcdhhjaaDoorRead4
namespace Go.Proofs.YtpbkmfnfcdhhjaaDoor
set_option linter.unusedVariables false
open Go Go.RowKit Go.ChangeShapes

/-- what the document's readers of values hand back -/
def RfRet (B : Nat) (r : Option (List Val)) (e : Ending) (w' : World) : Prop :=
  match r with
  | none => ∃ u, e = .returned (.tuple #[u, .bool false])
  | some l => ∃ u, e = .returned (.tuple #[u, .bool true]) ∧ w'.ownsRow B 29 3 u l.length (l.flatMap valCells)
theorem RfRet.bad {B : Nat} {r : Option (List Val)} {u : Value} {b : Bool} {w' : World} (h : r = none) (hb : b = false) : RfRet B r (.returned (.tuple #[u, .bool b])) w' := by rw [h, hb]; exact ⟨u, rfl⟩
theorem RfRet.good {B : Nat} {r : Option (List Val)} {l : List Val} {u : Value} {b : Bool} {w' : World} (h : r = some l) (hb : b = true) (ho : w'.ownsRow B 29 3 u l.length (l.flatMap valCells)) : RfRet B r (.returned (.tuple #[u, .bool b])) w' := by rw [h, hb]; exact ⟨u, rfl, ho⟩
theorem bown_base2 {w : World} {B B' n s : Nat} {e : TypeId} {v : Value} {xs : List Value} (h : w.ownsRow B e s v n xs) (hB : B' ≤ B) : w.ownsRow B' e s v n xs := by
  refine ⟨h.1, ?_⟩
  rcases h.2 with h0 | ⟨g, cap, cur, hv, h1, h2, h3⟩
  · exact .inl h0
  · exact .inr ⟨g, cap, cur, hv, Nat.le_trans hB h1, h2, h3⟩
theorem unlittle_mid (s : List UInt8) (j z : Nat) (h : j * z + z ≤ s.length) : unlittle ((s.drop (j * z)).take z) = unlittle s / 2 ^ (j * (8 * z)) % 2 ^ (8 * z) := by
  have e1 : s = s.take (j * z) ++ s.drop (j * z) := (List.take_append_drop _ _).symm
  have e2 : s.drop (j * z) = (s.drop (j * z)).take z ++ (s.drop (j * z)).drop z := (List.take_append_drop _ _).symm
  have l1 : (s.take (j * z)).length = j * z := by rw [List.length_take]; omega
  have l2 : ((s.drop (j * z)).take z).length = z := by rw [List.length_take, List.length_drop]; omega
  have h1 := unlittle_lt (s.take (j * z))
  have h2 := unlittle_lt ((s.drop (j * z)).take z)
  rw [l1] at h1
  rw [l2] at h2
  have hu : unlittle s = unlittle (s.take (j * z)) + 256 ^ (j * z) * (unlittle ((s.drop (j * z)).take z) + 256 ^ z * unlittle ((s.drop (j * z)).drop z)) := by
    conv => lhs; rw [e1, unlittle_append, l1, e2, unlittle_append, l2]
  rw [hu, show j * (8 * z) = 8 * (j * z) by rw [Nat.mul_left_comm], pow256, pow256, Nat.add_mul_div_left _ _ (Nat.pow_pos (by decide)), Nat.div_eq_of_lt h1, Nat.zero_add, Nat.add_mul_mod_self_left, Nat.mod_eq_of_lt h2]

set_option maxRecDepth 100000 in
set_option maxHeartbeats 4000000 in
theorem readPlainOf_texts (s : ByteArray) (n : Nat) (w : World) (hn : n ≤ 20000) (hs : s.size ≤ 1000000) :
    Calls Tryd.prog 53 #[.int .i64 4, .string s, .int .i64 (n : Nat)] w fun e w' => RfRet w.heap.size (readTs n s.data.toList) e w' ∧ Below w.heap.size w w' := by
  go_enter Tryd.func53, Tryd.ntmps53
  go_wp2_with fail
  go_loopw [1, 8, 12] (fun re u i wr => ∃ (L : List Val) (r : ByteArray), L.length ≤ n ∧ i = .int .i64 (L.length : Nat) ∧ re = .string r ∧ r.size ≤ s.size ∧
    wr.ownsRow w.heap.size 29 3 u L.length (L.flatMap valCells) ∧ Below w.heap.size w wr ∧
    readTs n s.data.toList = (readTs (n - L.length) r.data.toList).map (L ++ ·)) (fun _ _ i _ => n - (intOf i).toNat)
  case atStart => exact ⟨[], s, Nat.zero_le _, rfl, rfl, Nat.le_refl _, World.ownsRow_nil _ _ _ _, Below.refl _ _, by simp⟩
  case round =>
    obtain ⟨L, r, hLn, rfl, rfl, hrs, hown, hb, hinv⟩ := hrel
    have Hinv := Lib.hid hinv; have Hown := Lib.hid hown; have Hb := Lib.hid hb
    have hrm : r.size ≤ maxLen := by unfold maxLen; omega
    have hbs := hb.size
    clear hinv hown hb
    by_cases hlt : L.length < n
    · have hlt' : (L.length : Int) < (n : Int) := by omega
      obtain ⟨lf, hlf⟩ : ∃ lf, n - L.length = lf + 1 := ⟨n - L.length - 1, by omega⟩
      have Hlf := Lib.hid hlf
      rw [hlf] at Hinv
      clear hlf
      cases hT : readT r.data.toList with
      | none =>
        have Hc := Lib.hid (fun w1 => readLong_none r w1 hrm hT)
        have HN := Lib.hid (show readTs (lf + 1) r.data.toList = none by unfold readTs; rw [hT])
        clear hT
        go_wp2_with fail
        refine (Hc.out _).mono ?_; rintro e w1 ⟨rfl, rfl⟩
        go_wp2_with fail
        go_ret2
        exact ⟨RfRet.bad (by rw [Hinv.out, HN.out]; rfl) rfl, Hb.out⟩
      | some y =>
        obtain ⟨t, k⟩ := y
        have Hc := Lib.hid (fun w1 => readLong_some r w1 hrm hT)
        obtain ⟨_, htk, ht2, hkr⟩ := readT_inv hT
        have hk0 : 0 < k := by
          obtain ⟨n', u', hr', _, _, _, hk'⟩ := readT_cases hT
          have := readU_lt hr'
          omega
        have hkI0 : ((k : Int) == 0) = false := by rw [beq_eq_false_iff_ne]; omega
        have hrl : r.data.toList.length = r.size := by simp
        rw [hrl] at hkr
        have HT := Lib.hid hT
        clear hT hrl htk
        by_cases h100 : 100 < t.length
        · have HN := Lib.hid (show readTs (lf + 1) r.data.toList = none by unfold readTs; rw [HT.out]; simp only []; rw [if_pos h100])
          have h100' : (100 : Int) < (t.length : Int) := by omega
          go_wp2_with fail
          refine (Hc.out _).mono ?_; rintro e w1 ⟨rfl, rfl⟩
          go_wp2_with fail
          go_ret2
          exact ⟨RfRet.bad (by rw [Hinv.out, HN.out]; rfl) rfl, Hb.out⟩
        · have HN := Lib.hid (show readTs (lf + 1) r.data.toList = (readTs lf (r.data.toList.drop k)).map (textV t :: ·) from readTs_step HT.out h100)
          have h100' : (t.length : Int) ≤ 100 := by omega
          have hl2 : L.length ≤ 20000 := by omega
          have hkI : (k : Int) ≤ (r.size : Int) := by omega
          go_wp2_with fail
          refine (Hc.out _).mono ?_; rintro e w1 ⟨rfl, rfl⟩
          go_wp2_with (at_builtin; refine wpList_pushVal rfl _ _ rfl w.heap.size _ L rfl Hown.out _ _ rfl rfl hl2 hbs (textV t) _ rfl ?_; intro v' w4 hown' hgrow' hb'; have HO4 := Lib.hid hown'; have HB4 := Lib.hid (Hb.out.trans hb'); clear hown' hgrow' hb')
          go_roundw
          case rel =>
            have hl1 : (L ++ [textV t]).length = L.length + 1 := by simp
            refine ⟨L ++ [textV t], r.extract k r.size, by omega, by rw [hl1]; rfl, rfl, by simp; omega, HO4.out, HB4.out, ?_⟩
            rw [Hinv.out, HN.out, Option.map_map, bext_list, hl1, show n - (L.length + 1) = lf by have := Hlf.out; omega]
            congr 1
            funext y
            simp
          case measure => simp [intOf]; omega
    · obtain rfl : L.length = n := by omega
      rw [Nat.sub_self] at Hinv
      obtain ⟨adu, capu, rfl⟩ := bslice_form Hown.out
      have hie := empty_beq' r
      by_cases hr0 : r.size = 0
      · have HR := Lib.hid (show readTs L.length s.data.toList = some L by
          rw [Hinv.out, show r.data.toList = [] by rw [empty_list hr0]]
          simp [readTs])
        have Hie := Lib.hid (show r.toList.isEmpty = true by rw [hie]; simpa using hr0)
        clear hr0 hie
        go_wp2_with fail
        go_ret2
        exact ⟨RfRet.good HR.out (by simpa using Hie.out) Hown.out, Hb.out⟩
      · have HR := Lib.hid (show readTs L.length s.data.toList = none by
          rw [Hinv.out]
          have : r.data.toList ≠ [] := by intro e; apply hr0; rw [← size_data, e]; rfl
          simp [readTs, this])
        have Hie := Lib.hid (show r.toList.isEmpty = false by rw [hie, decide_eq_false_iff_not]; exact hr0)
        clear hr0 hie
        go_wp2_with fail
        go_ret2
        exact ⟨RfRet.bad HR.out (by simpa using Hie.out), Hb.out⟩
end Go.Proofs.YtpbkmfnfcdhhjaaDoor
