/- The walk of the document's StatsOf. -/
import Derived.Test.YtpbkmfnfcdhhjaaGreatDoorSlim
import Derived.BigQuiet
import Derived.Deep.DeepCutAuto
import Derived.Deep.CutRange
namespace Go.Proofs.YtpbkmfnfcdhhjaaGreatDoor
set_option linter.unusedVariables false
open Go Go.RowKit Go.ChangeShapes

set_option maxRecDepth 100000 in
set_option maxHeartbeats 20000000 in
theorem statsOfR_any (c : Col) (vc : Value) (w : World) (hc : IsCol w vc c) (co : c.Ok) :
    Calls Tryz.prog 43 #[vc] w fun e w' => e = .returned (.agg (stA (knownSt c))) ∧ Below w.heap.size w w' := by
  obtain ⟨a, b, d, rfl, ha, hb, hd⟩ := hc
  have hml : c.rep.length ≤ 9223372036854775807 := by have := co.rep.1; unfold maxLen at this; exact this
  have hvl : c.vals.length ≤ 9223372036854775807 := by have := co.vals.1; unfold maxLen at this; exact this
  obtain ⟨a1, q1, rfl⟩ := ha.form
  obtain ⟨a3, q3, rfl⟩ := hd.form
  have hkn : stA (knownSt c) = stA ⟨(c.rep.length : Nat), (c.rep.length : Int) - (c.vals.length : Nat), !c.vals.isEmpty, loOf c.vals, hiOf c.vals⟩ := rfl
  rw [hkn]
  have Hd := Lib.hid hd; have Hco := Lib.hid co
  have Hemp : Hid ((!c.vals.isEmpty) = decide (0 < c.vals.length)) := Lib.hid (by cases c.vals <;> simp)
  generalize c.rep.length = n at *
  obtain ⟨L, hL⟩ : ∃ L, c.vals.length = L := ⟨_, rfl⟩
  rw [hL] at hvl ⊢
  have HL := Lib.hid hL
  obtain ⟨bb, hbb⟩ : ∃ bb, decide (0 < L) = bb := ⟨_, rfl⟩
  have hbi : decide ((0 : Int) < (L : Int)) = bb := by rw [← hbb]; simp
  have HBB := Lib.hid hbb
  rw [show (!c.vals.isEmpty) = bb from by rw [Hemp.out, HL.out, hbb]]
  clear ha hb hd co hkn hL hbb
  unfold colA
  go_enter Tryz.func43, Tryz.ntmps43
  go_upto_region 2 with fail
  obtain ⟨rC, rR, rS, hbw, hz⟩ := rows3 (w := w) (A := .cells #[.int .i64 c.id, .slice a1 n q1, b, .slice a3 L q3] 27) (B := .cells #[.int .i64 0, .int .i64 0, .bool false, .int .i64 0, .int .i64 0, .string ⟨#[]⟩, .int .i64 0, .int .i64 0, .string ⟨#[]⟩] 56) (C := .cells #[.int .i64 (n : Nat), .int .i64 ((n : Int) - (L : Nat)), .bool (decide (0 < L)), .int .i64 0, .int .i64 0, .string ⟨#[]⟩, .int .i64 0, .int .i64 0, .string ⟨#[]⟩] 56) (Below.refl _ _)
  have RC := Lib.hid rC; have RR := Lib.hid rR; have RS := Lib.hid rS; have Hbw := Lib.hid hbw
  clear rC rR rS hbw
  generalize (((w.alloc (.cells #[.int .i64 c.id, .slice a1 n q1, b, .slice a3 L q3] 27)).alloc (.cells #[.int .i64 0, .int .i64 0, .bool false, .int .i64 0, .int .i64 0, .string ⟨#[]⟩, .int .i64 0, .int .i64 0, .string ⟨#[]⟩] 56)).alloc (.cells #[.int .i64 (n : Nat), .int .i64 ((n : Int) - (L : Nat)), .bool (decide (0 < L)), .int .i64 0, .int .i64 0, .string ⟨#[]⟩, .int .i64 0, .int .i64 0, .string ⟨#[]⟩] 56)) = w1 at *
  replace RS := Lib.hid (by have h := RS.out; rw [HBB.out] at h; exact h)
  clear hbi
  go_wp2_with fail
  go_loopw [4] (fun q wr => ∃ k : Nat, k ≤ L ∧ q = .int .i64 (k : Nat) ∧ Below w.heap.size w wr ∧ w.heap.size + 2 < wr.heap.size ∧ wr.heap[w.heap.size]? = some (.cells #[.int .i64 c.id, .slice a1 n q1, b, .slice a3 L q3] 27 (0, 0)) ∧ wr.heap[w.heap.size + 1]? = some (.cells #[.int .i64 0, .int .i64 0, .bool false, .int .i64 0, .int .i64 0, .string ⟨#[]⟩, .int .i64 0, .int .i64 0, .string ⟨#[]⟩] 56 (0, 0)) ∧ wr.heap[w.heap.size + 1 + 1]? = some (.cells (stA ⟨(n : Nat), (n : Int) - (L : Nat), bb, loOf (c.vals.take k), hiOf (c.vals.take k)⟩) 56 (0, 0))) (fun q _ => L - (intOf q).toNat)
  case atStart =>
    refine ⟨0, Nat.zero_le _, rfl, Hbw.out, hz, RC.out, RR.out, ?_⟩
    exact RS.out
  case round =>
    obtain ⟨k, hk, rfl, hbr, hzr, rC, rR, rS⟩ := hrel
    clear RC RR RS Hbw hz
    have RC := Lib.hid rC; have RR := Lib.hid rR; have RS := Lib.hid rS; have Hbr := Lib.hid hbr
    clear rC rR rS hbr
    have cC := rowc RC.out
    by_cases hlt : k < L
    · have hkl : k < c.vals.length := by rw [HL.out]; exact hlt
      have hbt : bb = true := by rw [← HBB.out]; simp; omega
      subst hbt
      obtain ⟨b0, off, rfl, -, hlt0, hcv⟩ := Hd.out.at (by omega)
      have hin : (k : Int) < (L : Int) := by omega
      have hcx := hcv k c.vals[k] (List.getElem?_eq_getElem hkl)
      have hox := Hco.out.vals.2 c.vals[k] (List.getElem_mem hkl)
      have htk : c.vals.take (k + 1) = c.vals.take k ++ [c.vals[k]] := List.take_succ_eq_append_getElem hkl
      have hmem : ∀ x ∈ c.vals.take k, x.Ok := fun x hx => Hco.out.vals.2 x (List.mem_of_mem_take hx)
      have Htk := Lib.hid htk; have Hmem := Lib.hid hmem
      generalize c.vals[k] = y at *
      have HX0 := Lib.hid hcx
      have HX := Lib.hid (hcx.below Hbr.out hlt0)
      clear hcv hcx htk hmem hkl
      by_cases hk0 : k = 0
      · subst hk0
        have Hf : Hid (loOf (c.vals.take (0 + 1)) = y ∧ hiOf (c.vals.take (0 + 1)) = y) := Lib.hid (by rw [Htk.out]; exact ⟨rfl, rfl⟩)
        have RS0 : Hid (wr.heap[w.heap.size + 1 + 1]? = some (.cells #[.int .i64 (n : Nat), .int .i64 ((n : Int) - (L : Nat)), .bool true, .int .i64 0, .int .i64 0, .string ⟨#[]⟩, .int .i64 0, .int .i64 0, .string ⟨#[]⟩] 56 (0, 0))) := Lib.hid (by have h := RS.out; rw [show c.vals.take 0 = [] from rfl] at h; simpa [stA, loOf, hiOf, zv] using h)
        replace HX0 := Lib.hid (by have h := HX0.out; rw [Nat.zero_mul, Nat.add_zero] at h; exact h)
        clear HX
        have HX := Lib.hid (HX0.out.below Hbr.out hlt0)
        have cS := rowc RS0.out
        go_upto_region 5 with fail
        go_cut [38] from 20 to 62 (fun s wx => s = .bool true ∧ Below wr.heap.size wr wx)
        case first =>
          go_quiet (fail)
          go_wp2_with fail
          go_meet
          exact ⟨rfl, below_drewN (Below.refl _ _) _⟩
        case rest =>
          obtain ⟨rfl, hbx⟩ := hcut
          replace RC := Lib.hid (row_keep hbx RC.out); replace RR := Lib.hid (row_keep hbx RR.out); replace RS0 := Lib.hid (row_keep hbx RS0.out); replace Hbr := Lib.hid (Hbr.out.trans (hbx.mono Hbr.out.size)); replace hzr := Nat.lt_of_lt_of_le hzr hbx.size
          clear HX; have HX := Lib.hid (HX0.out.below Hbr.out hlt0)
          clear hbx cC cS
          have cC := rowc RC.out; have cS := rowc RS0.out; have fS := rowf RS0.out
          obtain ⟨w5, rfl⟩ : ∃ w5 : World, w5 = wc := ⟨_, rfl⟩
          obtain ⟨hx0, hx1, hx2⟩ := HX.out
          go_upto_region 7 with fail
          obtain ⟨p1, p2, p3, p4⟩ := set3_row (x := .int .i64 y.k) (y := .int .i64 y.n) (z := .string y.s) 3 RS0.out (by simp)
          replace RS0 := Lib.hid (p1.trans (show _ = some (.cells #[.int .i64 (n : Nat), .int .i64 ((n : Int) - (L : Nat)), .bool true, .int .i64 y.k, .int .i64 y.n, .string y.s, .int .i64 0, .int .i64 0, .string ⟨#[]⟩] 56 (0, 0)) from rfl)); replace RC := Lib.hid ((p2 _ (by omega)).trans RC.out); replace RR := Lib.hid ((p2 _ (by omega)).trans RR.out); replace Hbr := Lib.hid (Hbr.out.trans (p3.mono (by omega)))
          replace hzr := Nat.lt_of_lt_of_le hzr (Nat.le_of_eq p4.symm)
          clear HX; have HX := Lib.hid (HX0.out.below Hbr.out hlt0)
          clear p1 p2 p3 p4 cC cS fS hx0 hx1 hx2
          generalize (((w5.setCell ⟨w.heap.size + 1 + 1, 3, none⟩ (.int .i64 y.k)).setCell ⟨w.heap.size + 1 + 1, 4, none⟩ (.int .i64 y.n)).setCell ⟨w.heap.size + 1 + 1, 5, none⟩ (.string y.s)) = w6 at *
          have cC := rowc RC.out; have cS := rowc RS0.out
          go_upto_region 7 with fail
          go_cut [56] from 20 to 62 (fun s wx => s = .bool true ∧ Below w6.heap.size w6 wx)
          case first =>
            go_quiet (fail)
            go_wp2_with fail
            go_meet
            exact ⟨rfl, below_drewN (Below.refl _ _) _⟩
          case rest =>
            obtain ⟨rfl, hbx⟩ := hcut
            replace RC := Lib.hid (row_keep hbx RC.out); replace RR := Lib.hid (row_keep hbx RR.out); replace RS0 := Lib.hid (row_keep hbx RS0.out); replace Hbr := Lib.hid (Hbr.out.trans (hbx.mono Hbr.out.size)); replace hzr := Nat.lt_of_lt_of_le hzr hbx.size
            clear HX; have HX := Lib.hid (HX0.out.below Hbr.out hlt0)
            clear hbx cC cS
            have cC := rowc RC.out; have cS := rowc RS0.out; have fS := rowf RS0.out
            obtain ⟨w7, rfl⟩ : ∃ w7 : World, w7 = wc := ⟨_, rfl⟩
            obtain ⟨hx0, hx1, hx2⟩ := HX.out
            go_wp2_with fail
            obtain ⟨p1, p2, p3, p4⟩ := set3_row (x := .int .i64 y.k) (y := .int .i64 y.n) (z := .string y.s) 6 RS0.out (by simp)
            replace RS0 := Lib.hid (p1.trans (show _ = some (.cells #[.int .i64 (n : Nat), .int .i64 ((n : Int) - (L : Nat)), .bool true, .int .i64 y.k, .int .i64 y.n, .string y.s, .int .i64 y.k, .int .i64 y.n, .string y.s] 56 (0, 0)) from rfl)); replace RC := Lib.hid ((p2 _ (by omega)).trans RC.out); replace RR := Lib.hid ((p2 _ (by omega)).trans RR.out); replace Hbr := Lib.hid (Hbr.out.trans (p3.mono (by omega)))
            replace hzr := Nat.lt_of_lt_of_le hzr (Nat.le_of_eq p4.symm)
            clear HX; have HX := Lib.hid (HX0.out.below Hbr.out hlt0)
            clear p1 p2 p3 p4 cC cS fS hx0 hx1 hx2
            go_roundw
            case rel =>
              refine ⟨0 + 1, by omega, by go_num, Hbr.out, hzr, RC.out, RR.out, ?_⟩
              rw [Hf.out.1, Hf.out.2]; exact RS0.out
            case measure => simp [intOf]; omega
      · have hnil : c.vals.take k ≠ [] := by
          intro h
          have h2 := congrArg List.length h
          rw [List.length_take, HL.out] at h2
          simp at h2; omega
        have hlo := Hmem.out _ (loOf_mem _ hnil); have hhi := Hmem.out _ (hiOf_mem _ hnil)
        have Hlo := Lib.hid (loOf_snoc (c.vals.take k) hnil y); have Hhi := Lib.hid (hiOf_snoc (c.vals.take k) hnil y)
        have RS0 : Hid (wr.heap[w.heap.size + 1 + 1]? = some (.cells (stA ⟨(n : Nat), (n : Int) - (L : Nat), true, loOf (c.vals.take k), hiOf (c.vals.take k)⟩) 56 (0, 0))) := RS
        clear hnil
        generalize loOf (c.vals.take k) = lo at *
        generalize hiOf (c.vals.take k) = hi at *
        have hk0' : ((k : Int) == 0) = false := by simp; omega
        simp only [stA] at RS0
        cases t1 : y.less lo <;> cases t2 : hi.less y
        · skip
          have HA := Lib.hid (fun w1 => lessOf_at y lo hox hlo _ t1 w1)
          have HB2 := Lib.hid (fun w1 => lessOf_at hi y hhi hox _ t2 w1)
          have Hf : Hid (loOf (c.vals.take (k + 1)) = lo ∧ hiOf (c.vals.take (k + 1)) = hi) := Lib.hid ⟨by rw [Htk.out, Hlo.out]; unfold pickLo; rw [t1]; rfl, by rw [Htk.out, Hhi.out]; unfold pickHi; rw [t2]; rfl⟩
          clear hox hlo hhi t1 t2
          have cS := rowc RS0.out
          go_upto_region 5 with fail
          go_cut [38] from 20 to 62 (fun s wx => s = .bool false ∧ Below wr.heap.size wr wx)
          case first =>
            have HBq := Lib.hid (Below.refl wr.heap.size wr)
            go_region_held3 (fun w' => (∀ j, w'.cell? ⟨w.heap.size, j, none⟩ = (#[.int .i64 c.id, .slice a1 n q1, b, .slice (some ⟨b0, off, none⟩) L q3] : Array Value)[j]?) ∧ (∀ j, w'.cell? ⟨w.heap.size + 1 + 1, j, none⟩ = (#[.int .i64 (n : Nat), .int .i64 ((n : Int) - (L : Nat)), .bool true, .int .i64 lo.k, .int .i64 lo.n, .string lo.s, .int .i64 hi.k, .int .i64 hi.n, .string hi.s] : Array Value)[j]?) ∧ w'.cell? ⟨b0, off + k * 3, none⟩ = some (.int .i64 y.k) ∧ w'.cell? ⟨b0, off + k * 3 + 1, none⟩ = some (.int .i64 y.n) ∧ w'.cell? ⟨b0, off + k * 3 + 2, none⟩ = some (.string y.s))
              (first | (with_reducible exact ⟨rowc RC.out, rowc RS0.out, HX.out.1, HX.out.2.1, HX.out.2.2⟩) | exact ⟨rowc_drew RC.out, rowc_drew RS0.out, HX.out.1, HX.out.2.1, HX.out.2.2⟩)
              (first
              | (go_at_call 89; (with_reducible refine (HA.out _).mono ?_); rintro e w9 ⟨rfl, hb9⟩; (first | (with_reducible have hbs := drew_first hb9) | (have hbs := hb9)); replace HX := Lib.hid (HX.out.below hbs (by omega)); replace RC := Lib.hid (row_keep hbs RC.out); replace RS0 := Lib.hid (row_keep hbs RS0.out); replace HBq := Lib.hid (HBq.out.trans (hbs.mono HBq.out.size)); clear hb9 hbs))
            all_goals (go_wp2_with fail; go_meet)
            all_goals (exact ⟨rfl, HBq.out⟩)
          case rest =>
            obtain ⟨rfl, hbx⟩ := hcut
            replace RC := Lib.hid (row_keep hbx RC.out); replace RR := Lib.hid (row_keep hbx RR.out); replace RS0 := Lib.hid (row_keep hbx RS0.out); replace Hbr := Lib.hid (Hbr.out.trans (hbx.mono Hbr.out.size)); replace hzr := Nat.lt_of_lt_of_le hzr hbx.size
            clear HX; have HX := Lib.hid (HX0.out.below Hbr.out hlt0)
            clear hbx cC cS
            have cC := rowc RC.out; have cS := rowc RS0.out; have fS := rowf RS0.out
            obtain ⟨w5, rfl⟩ : ∃ w5 : World, w5 = wc := ⟨_, rfl⟩
            go_upto_region 7 with fail
            go_upto_region 7 with fail
            go_cut [56] from 20 to 62 (fun s wx => s = .bool false ∧ Below w5.heap.size w5 wx)
            case first =>
              have HBq := Lib.hid (Below.refl w5.heap.size w5)
              go_region_held3 (fun w' => (∀ j, w'.cell? ⟨w.heap.size, j, none⟩ = (#[.int .i64 c.id, .slice a1 n q1, b, .slice (some ⟨b0, off, none⟩) L q3] : Array Value)[j]?) ∧ (∀ j, w'.cell? ⟨w.heap.size + 1 + 1, j, none⟩ = (#[.int .i64 (n : Nat), .int .i64 ((n : Int) - (L : Nat)), .bool true, .int .i64 lo.k, .int .i64 lo.n, .string lo.s, .int .i64 hi.k, .int .i64 hi.n, .string hi.s] : Array Value)[j]?) ∧ w'.cell? ⟨b0, off + k * 3, none⟩ = some (.int .i64 y.k) ∧ w'.cell? ⟨b0, off + k * 3 + 1, none⟩ = some (.int .i64 y.n) ∧ w'.cell? ⟨b0, off + k * 3 + 2, none⟩ = some (.string y.s))
                (first | (with_reducible exact ⟨rowc RC.out, rowc RS0.out, HX.out.1, HX.out.2.1, HX.out.2.2⟩) | exact ⟨rowc_drew RC.out, rowc_drew RS0.out, HX.out.1, HX.out.2.1, HX.out.2.2⟩)
                (first
                | (go_at_call 89; (with_reducible refine (HB2.out _).mono ?_); rintro e w9 ⟨rfl, hb9⟩; (first | (with_reducible have hbs := drew_first hb9) | (have hbs := hb9)); replace HX := Lib.hid (HX.out.below hbs (by omega)); replace RC := Lib.hid (row_keep hbs RC.out); replace RS0 := Lib.hid (row_keep hbs RS0.out); replace HBq := Lib.hid (HBq.out.trans (hbs.mono HBq.out.size)); clear hb9 hbs))
              all_goals (go_wp2_with fail; go_meet)
              all_goals (exact ⟨rfl, HBq.out⟩)
            case rest =>
              obtain ⟨rfl, hbx⟩ := hcut
              replace RC := Lib.hid (row_keep hbx RC.out); replace RR := Lib.hid (row_keep hbx RR.out); replace RS0 := Lib.hid (row_keep hbx RS0.out); replace Hbr := Lib.hid (Hbr.out.trans (hbx.mono Hbr.out.size)); replace hzr := Nat.lt_of_lt_of_le hzr hbx.size
              clear HX; have HX := Lib.hid (HX0.out.below Hbr.out hlt0)
              clear hbx cC cS
              have cC := rowc RC.out; have cS := rowc RS0.out; have fS := rowf RS0.out
              obtain ⟨w7, rfl⟩ : ∃ w7 : World, w7 = wc := ⟨_, rfl⟩
              go_wp2_with fail
              go_roundw
              case rel =>
                refine ⟨k + 1, by omega, by go_num, Hbr.out, hzr, RC.out, RR.out, ?_⟩
                rw [Hf.out.1, Hf.out.2]; exact RS0.out
              case measure => simp [intOf]; omega
        · skip
          have HA := Lib.hid (fun w1 => lessOf_at y lo hox hlo _ t1 w1)
          have HB2 := Lib.hid (fun w1 => lessOf_at hi y hhi hox _ t2 w1)
          have Hf : Hid (loOf (c.vals.take (k + 1)) = lo ∧ hiOf (c.vals.take (k + 1)) = y) := Lib.hid ⟨by rw [Htk.out, Hlo.out]; unfold pickLo; rw [t1]; rfl, by rw [Htk.out, Hhi.out]; unfold pickHi; rw [t2]; rfl⟩
          clear hox hlo hhi t1 t2
          have cS := rowc RS0.out
          go_upto_region 5 with fail
          go_cut [38] from 20 to 62 (fun s wx => s = .bool false ∧ Below wr.heap.size wr wx)
          case first =>
            have HBq := Lib.hid (Below.refl wr.heap.size wr)
            go_region_held3 (fun w' => (∀ j, w'.cell? ⟨w.heap.size, j, none⟩ = (#[.int .i64 c.id, .slice a1 n q1, b, .slice (some ⟨b0, off, none⟩) L q3] : Array Value)[j]?) ∧ (∀ j, w'.cell? ⟨w.heap.size + 1 + 1, j, none⟩ = (#[.int .i64 (n : Nat), .int .i64 ((n : Int) - (L : Nat)), .bool true, .int .i64 lo.k, .int .i64 lo.n, .string lo.s, .int .i64 hi.k, .int .i64 hi.n, .string hi.s] : Array Value)[j]?) ∧ w'.cell? ⟨b0, off + k * 3, none⟩ = some (.int .i64 y.k) ∧ w'.cell? ⟨b0, off + k * 3 + 1, none⟩ = some (.int .i64 y.n) ∧ w'.cell? ⟨b0, off + k * 3 + 2, none⟩ = some (.string y.s))
              (first | (with_reducible exact ⟨rowc RC.out, rowc RS0.out, HX.out.1, HX.out.2.1, HX.out.2.2⟩) | exact ⟨rowc_drew RC.out, rowc_drew RS0.out, HX.out.1, HX.out.2.1, HX.out.2.2⟩)
              (first
              | (go_at_call 89; (with_reducible refine (HA.out _).mono ?_); rintro e w9 ⟨rfl, hb9⟩; (first | (with_reducible have hbs := drew_first hb9) | (have hbs := hb9)); replace HX := Lib.hid (HX.out.below hbs (by omega)); replace RC := Lib.hid (row_keep hbs RC.out); replace RS0 := Lib.hid (row_keep hbs RS0.out); replace HBq := Lib.hid (HBq.out.trans (hbs.mono HBq.out.size)); clear hb9 hbs))
            all_goals (go_wp2_with fail; go_meet)
            all_goals (exact ⟨rfl, HBq.out⟩)
          case rest =>
            obtain ⟨rfl, hbx⟩ := hcut
            replace RC := Lib.hid (row_keep hbx RC.out); replace RR := Lib.hid (row_keep hbx RR.out); replace RS0 := Lib.hid (row_keep hbx RS0.out); replace Hbr := Lib.hid (Hbr.out.trans (hbx.mono Hbr.out.size)); replace hzr := Nat.lt_of_lt_of_le hzr hbx.size
            clear HX; have HX := Lib.hid (HX0.out.below Hbr.out hlt0)
            clear hbx cC cS
            have cC := rowc RC.out; have cS := rowc RS0.out; have fS := rowf RS0.out
            obtain ⟨w5, rfl⟩ : ∃ w5 : World, w5 = wc := ⟨_, rfl⟩
            go_upto_region 7 with fail
            go_upto_region 7 with fail
            go_cut [56] from 20 to 62 (fun s wx => s = .bool true ∧ Below w5.heap.size w5 wx)
            case first =>
              have HBq := Lib.hid (Below.refl w5.heap.size w5)
              go_region_held3 (fun w' => (∀ j, w'.cell? ⟨w.heap.size, j, none⟩ = (#[.int .i64 c.id, .slice a1 n q1, b, .slice (some ⟨b0, off, none⟩) L q3] : Array Value)[j]?) ∧ (∀ j, w'.cell? ⟨w.heap.size + 1 + 1, j, none⟩ = (#[.int .i64 (n : Nat), .int .i64 ((n : Int) - (L : Nat)), .bool true, .int .i64 lo.k, .int .i64 lo.n, .string lo.s, .int .i64 hi.k, .int .i64 hi.n, .string hi.s] : Array Value)[j]?) ∧ w'.cell? ⟨b0, off + k * 3, none⟩ = some (.int .i64 y.k) ∧ w'.cell? ⟨b0, off + k * 3 + 1, none⟩ = some (.int .i64 y.n) ∧ w'.cell? ⟨b0, off + k * 3 + 2, none⟩ = some (.string y.s))
                (first | (with_reducible exact ⟨rowc RC.out, rowc RS0.out, HX.out.1, HX.out.2.1, HX.out.2.2⟩) | exact ⟨rowc_drew RC.out, rowc_drew RS0.out, HX.out.1, HX.out.2.1, HX.out.2.2⟩)
                (first
                | (go_at_call 89; (with_reducible refine (HB2.out _).mono ?_); rintro e w9 ⟨rfl, hb9⟩; (first | (with_reducible have hbs := drew_first hb9) | (have hbs := hb9)); replace HX := Lib.hid (HX.out.below hbs (by omega)); replace RC := Lib.hid (row_keep hbs RC.out); replace RS0 := Lib.hid (row_keep hbs RS0.out); replace HBq := Lib.hid (HBq.out.trans (hbs.mono HBq.out.size)); clear hb9 hbs))
              all_goals (go_wp2_with fail; go_meet)
              all_goals (exact ⟨rfl, HBq.out⟩)
            case rest =>
              obtain ⟨rfl, hbx⟩ := hcut
              replace RC := Lib.hid (row_keep hbx RC.out); replace RR := Lib.hid (row_keep hbx RR.out); replace RS0 := Lib.hid (row_keep hbx RS0.out); replace Hbr := Lib.hid (Hbr.out.trans (hbx.mono Hbr.out.size)); replace hzr := Nat.lt_of_lt_of_le hzr hbx.size
              clear HX; have HX := Lib.hid (HX0.out.below Hbr.out hlt0)
              clear hbx cC cS
              have cC := rowc RC.out; have cS := rowc RS0.out; have fS := rowf RS0.out
              obtain ⟨w7, rfl⟩ : ∃ w7 : World, w7 = wc := ⟨_, rfl⟩
              obtain ⟨hx0, hx1, hx2⟩ := HX.out
              go_wp2_with fail
              obtain ⟨p1, p2, p3, p4⟩ := set3_row (x := .int .i64 y.k) (y := .int .i64 y.n) (z := .string y.s) 6 RS0.out (by simp)
              replace RS0 := Lib.hid (p1.trans (show _ = some (.cells #[.int .i64 (n : Nat), .int .i64 ((n : Int) - (L : Nat)), .bool true, .int .i64 lo.k, .int .i64 lo.n, .string lo.s, .int .i64 y.k, .int .i64 y.n, .string y.s] 56 (0, 0)) from rfl)); replace RC := Lib.hid ((p2 _ (by omega)).trans RC.out); replace RR := Lib.hid ((p2 _ (by omega)).trans RR.out); replace Hbr := Lib.hid (Hbr.out.trans (p3.mono (by omega)))
              replace hzr := Nat.lt_of_lt_of_le hzr (Nat.le_of_eq p4.symm)
              clear HX; have HX := Lib.hid (HX0.out.below Hbr.out hlt0)
              clear p1 p2 p3 p4 cC cS fS hx0 hx1 hx2
              go_roundw
              case rel =>
                refine ⟨k + 1, by omega, by go_num, Hbr.out, hzr, RC.out, RR.out, ?_⟩
                rw [Hf.out.1, Hf.out.2]; exact RS0.out
              case measure => simp [intOf]; omega
        · skip
          have HA := Lib.hid (fun w1 => lessOf_at y lo hox hlo _ t1 w1)
          have HB2 := Lib.hid (fun w1 => lessOf_at hi y hhi hox _ t2 w1)
          have Hf : Hid (loOf (c.vals.take (k + 1)) = y ∧ hiOf (c.vals.take (k + 1)) = hi) := Lib.hid ⟨by rw [Htk.out, Hlo.out]; unfold pickLo; rw [t1]; rfl, by rw [Htk.out, Hhi.out]; unfold pickHi; rw [t2]; rfl⟩
          clear hox hlo hhi t1 t2
          have cS := rowc RS0.out
          go_upto_region 5 with fail
          go_cut [38] from 20 to 62 (fun s wx => s = .bool true ∧ Below wr.heap.size wr wx)
          case first =>
            have HBq := Lib.hid (Below.refl wr.heap.size wr)
            go_region_held3 (fun w' => (∀ j, w'.cell? ⟨w.heap.size, j, none⟩ = (#[.int .i64 c.id, .slice a1 n q1, b, .slice (some ⟨b0, off, none⟩) L q3] : Array Value)[j]?) ∧ (∀ j, w'.cell? ⟨w.heap.size + 1 + 1, j, none⟩ = (#[.int .i64 (n : Nat), .int .i64 ((n : Int) - (L : Nat)), .bool true, .int .i64 lo.k, .int .i64 lo.n, .string lo.s, .int .i64 hi.k, .int .i64 hi.n, .string hi.s] : Array Value)[j]?) ∧ w'.cell? ⟨b0, off + k * 3, none⟩ = some (.int .i64 y.k) ∧ w'.cell? ⟨b0, off + k * 3 + 1, none⟩ = some (.int .i64 y.n) ∧ w'.cell? ⟨b0, off + k * 3 + 2, none⟩ = some (.string y.s))
              (first | (with_reducible exact ⟨rowc RC.out, rowc RS0.out, HX.out.1, HX.out.2.1, HX.out.2.2⟩) | exact ⟨rowc_drew RC.out, rowc_drew RS0.out, HX.out.1, HX.out.2.1, HX.out.2.2⟩)
              (first
              | (go_at_call 89; (with_reducible refine (HA.out _).mono ?_); rintro e w9 ⟨rfl, hb9⟩; (first | (with_reducible have hbs := drew_first hb9) | (have hbs := hb9)); replace HX := Lib.hid (HX.out.below hbs (by omega)); replace RC := Lib.hid (row_keep hbs RC.out); replace RS0 := Lib.hid (row_keep hbs RS0.out); replace HBq := Lib.hid (HBq.out.trans (hbs.mono HBq.out.size)); clear hb9 hbs))
            all_goals (go_wp2_with fail; go_meet)
            all_goals (exact ⟨rfl, HBq.out⟩)
          case rest =>
            obtain ⟨rfl, hbx⟩ := hcut
            replace RC := Lib.hid (row_keep hbx RC.out); replace RR := Lib.hid (row_keep hbx RR.out); replace RS0 := Lib.hid (row_keep hbx RS0.out); replace Hbr := Lib.hid (Hbr.out.trans (hbx.mono Hbr.out.size)); replace hzr := Nat.lt_of_lt_of_le hzr hbx.size
            clear HX; have HX := Lib.hid (HX0.out.below Hbr.out hlt0)
            clear hbx cC cS
            have cC := rowc RC.out; have cS := rowc RS0.out; have fS := rowf RS0.out
            obtain ⟨w5, rfl⟩ : ∃ w5 : World, w5 = wc := ⟨_, rfl⟩
            obtain ⟨hx0, hx1, hx2⟩ := HX.out
            go_upto_region 7 with fail
            obtain ⟨p1, p2, p3, p4⟩ := set3_row (x := .int .i64 y.k) (y := .int .i64 y.n) (z := .string y.s) 3 RS0.out (by simp)
            replace RS0 := Lib.hid (p1.trans (show _ = some (.cells #[.int .i64 (n : Nat), .int .i64 ((n : Int) - (L : Nat)), .bool true, .int .i64 y.k, .int .i64 y.n, .string y.s, .int .i64 hi.k, .int .i64 hi.n, .string hi.s] 56 (0, 0)) from rfl)); replace RC := Lib.hid ((p2 _ (by omega)).trans RC.out); replace RR := Lib.hid ((p2 _ (by omega)).trans RR.out); replace Hbr := Lib.hid (Hbr.out.trans (p3.mono (by omega)))
            replace hzr := Nat.lt_of_lt_of_le hzr (Nat.le_of_eq p4.symm)
            clear HX; have HX := Lib.hid (HX0.out.below Hbr.out hlt0)
            clear p1 p2 p3 p4 cC cS fS hx0 hx1 hx2
            generalize (((w5.setCell ⟨w.heap.size + 1 + 1, 3, none⟩ (.int .i64 y.k)).setCell ⟨w.heap.size + 1 + 1, 4, none⟩ (.int .i64 y.n)).setCell ⟨w.heap.size + 1 + 1, 5, none⟩ (.string y.s)) = w6 at *
            have cC := rowc RC.out; have cS := rowc RS0.out
            go_upto_region 7 with fail
            go_cut [56] from 20 to 62 (fun s wx => s = .bool false ∧ Below w6.heap.size w6 wx)
            case first =>
              have HBq := Lib.hid (Below.refl w6.heap.size w6)
              go_region_held3 (fun w' => (∀ j, w'.cell? ⟨w.heap.size, j, none⟩ = (#[.int .i64 c.id, .slice a1 n q1, b, .slice (some ⟨b0, off, none⟩) L q3] : Array Value)[j]?) ∧ (∀ j, w'.cell? ⟨w.heap.size + 1 + 1, j, none⟩ = (#[.int .i64 (n : Nat), .int .i64 ((n : Int) - (L : Nat)), .bool true, .int .i64 y.k, .int .i64 y.n, .string y.s, .int .i64 hi.k, .int .i64 hi.n, .string hi.s] : Array Value)[j]?) ∧ w'.cell? ⟨b0, off + k * 3, none⟩ = some (.int .i64 y.k) ∧ w'.cell? ⟨b0, off + k * 3 + 1, none⟩ = some (.int .i64 y.n) ∧ w'.cell? ⟨b0, off + k * 3 + 2, none⟩ = some (.string y.s))
                (first | (with_reducible exact ⟨rowc RC.out, rowc RS0.out, HX.out.1, HX.out.2.1, HX.out.2.2⟩) | exact ⟨rowc_drew RC.out, rowc_drew RS0.out, HX.out.1, HX.out.2.1, HX.out.2.2⟩)
                (first
                | (go_at_call 89; (with_reducible refine (HB2.out _).mono ?_); rintro e w9 ⟨rfl, hb9⟩; (first | (with_reducible have hbs := drew_first hb9) | (have hbs := hb9)); replace HX := Lib.hid (HX.out.below hbs (by omega)); replace RC := Lib.hid (row_keep hbs RC.out); replace RS0 := Lib.hid (row_keep hbs RS0.out); replace HBq := Lib.hid (HBq.out.trans (hbs.mono HBq.out.size)); clear hb9 hbs))
              all_goals (go_wp2_with fail; go_meet)
              all_goals (exact ⟨rfl, HBq.out⟩)
            case rest =>
              obtain ⟨rfl, hbx⟩ := hcut
              replace RC := Lib.hid (row_keep hbx RC.out); replace RR := Lib.hid (row_keep hbx RR.out); replace RS0 := Lib.hid (row_keep hbx RS0.out); replace Hbr := Lib.hid (Hbr.out.trans (hbx.mono Hbr.out.size)); replace hzr := Nat.lt_of_lt_of_le hzr hbx.size
              clear HX; have HX := Lib.hid (HX0.out.below Hbr.out hlt0)
              clear hbx cC cS
              have cC := rowc RC.out; have cS := rowc RS0.out; have fS := rowf RS0.out
              obtain ⟨w7, rfl⟩ : ∃ w7 : World, w7 = wc := ⟨_, rfl⟩
              go_wp2_with fail
              go_roundw
              case rel =>
                refine ⟨k + 1, by omega, by go_num, Hbr.out, hzr, RC.out, RR.out, ?_⟩
                rw [Hf.out.1, Hf.out.2]; exact RS0.out
              case measure => simp [intOf]; omega
        · skip
          have HA := Lib.hid (fun w1 => lessOf_at y lo hox hlo _ t1 w1)
          have HB2 := Lib.hid (fun w1 => lessOf_at hi y hhi hox _ t2 w1)
          have Hf : Hid (loOf (c.vals.take (k + 1)) = y ∧ hiOf (c.vals.take (k + 1)) = y) := Lib.hid ⟨by rw [Htk.out, Hlo.out]; unfold pickLo; rw [t1]; rfl, by rw [Htk.out, Hhi.out]; unfold pickHi; rw [t2]; rfl⟩
          clear hox hlo hhi t1 t2
          have cS := rowc RS0.out
          go_upto_region 5 with fail
          go_cut [38] from 20 to 62 (fun s wx => s = .bool true ∧ Below wr.heap.size wr wx)
          case first =>
            have HBq := Lib.hid (Below.refl wr.heap.size wr)
            go_region_held3 (fun w' => (∀ j, w'.cell? ⟨w.heap.size, j, none⟩ = (#[.int .i64 c.id, .slice a1 n q1, b, .slice (some ⟨b0, off, none⟩) L q3] : Array Value)[j]?) ∧ (∀ j, w'.cell? ⟨w.heap.size + 1 + 1, j, none⟩ = (#[.int .i64 (n : Nat), .int .i64 ((n : Int) - (L : Nat)), .bool true, .int .i64 lo.k, .int .i64 lo.n, .string lo.s, .int .i64 hi.k, .int .i64 hi.n, .string hi.s] : Array Value)[j]?) ∧ w'.cell? ⟨b0, off + k * 3, none⟩ = some (.int .i64 y.k) ∧ w'.cell? ⟨b0, off + k * 3 + 1, none⟩ = some (.int .i64 y.n) ∧ w'.cell? ⟨b0, off + k * 3 + 2, none⟩ = some (.string y.s))
              (first | (with_reducible exact ⟨rowc RC.out, rowc RS0.out, HX.out.1, HX.out.2.1, HX.out.2.2⟩) | exact ⟨rowc_drew RC.out, rowc_drew RS0.out, HX.out.1, HX.out.2.1, HX.out.2.2⟩)
              (first
              | (go_at_call 89; (with_reducible refine (HA.out _).mono ?_); rintro e w9 ⟨rfl, hb9⟩; (first | (with_reducible have hbs := drew_first hb9) | (have hbs := hb9)); replace HX := Lib.hid (HX.out.below hbs (by omega)); replace RC := Lib.hid (row_keep hbs RC.out); replace RS0 := Lib.hid (row_keep hbs RS0.out); replace HBq := Lib.hid (HBq.out.trans (hbs.mono HBq.out.size)); clear hb9 hbs))
            all_goals (go_wp2_with fail; go_meet)
            all_goals (exact ⟨rfl, HBq.out⟩)
          case rest =>
            obtain ⟨rfl, hbx⟩ := hcut
            replace RC := Lib.hid (row_keep hbx RC.out); replace RR := Lib.hid (row_keep hbx RR.out); replace RS0 := Lib.hid (row_keep hbx RS0.out); replace Hbr := Lib.hid (Hbr.out.trans (hbx.mono Hbr.out.size)); replace hzr := Nat.lt_of_lt_of_le hzr hbx.size
            clear HX; have HX := Lib.hid (HX0.out.below Hbr.out hlt0)
            clear hbx cC cS
            have cC := rowc RC.out; have cS := rowc RS0.out; have fS := rowf RS0.out
            obtain ⟨w5, rfl⟩ : ∃ w5 : World, w5 = wc := ⟨_, rfl⟩
            obtain ⟨hx0, hx1, hx2⟩ := HX.out
            go_upto_region 7 with fail
            obtain ⟨p1, p2, p3, p4⟩ := set3_row (x := .int .i64 y.k) (y := .int .i64 y.n) (z := .string y.s) 3 RS0.out (by simp)
            replace RS0 := Lib.hid (p1.trans (show _ = some (.cells #[.int .i64 (n : Nat), .int .i64 ((n : Int) - (L : Nat)), .bool true, .int .i64 y.k, .int .i64 y.n, .string y.s, .int .i64 hi.k, .int .i64 hi.n, .string hi.s] 56 (0, 0)) from rfl)); replace RC := Lib.hid ((p2 _ (by omega)).trans RC.out); replace RR := Lib.hid ((p2 _ (by omega)).trans RR.out); replace Hbr := Lib.hid (Hbr.out.trans (p3.mono (by omega)))
            replace hzr := Nat.lt_of_lt_of_le hzr (Nat.le_of_eq p4.symm)
            clear HX; have HX := Lib.hid (HX0.out.below Hbr.out hlt0)
            clear p1 p2 p3 p4 cC cS fS hx0 hx1 hx2
            generalize (((w5.setCell ⟨w.heap.size + 1 + 1, 3, none⟩ (.int .i64 y.k)).setCell ⟨w.heap.size + 1 + 1, 4, none⟩ (.int .i64 y.n)).setCell ⟨w.heap.size + 1 + 1, 5, none⟩ (.string y.s)) = w6 at *
            have cC := rowc RC.out; have cS := rowc RS0.out
            go_upto_region 7 with fail
            go_cut [56] from 20 to 62 (fun s wx => s = .bool true ∧ Below w6.heap.size w6 wx)
            case first =>
              have HBq := Lib.hid (Below.refl w6.heap.size w6)
              go_region_held3 (fun w' => (∀ j, w'.cell? ⟨w.heap.size, j, none⟩ = (#[.int .i64 c.id, .slice a1 n q1, b, .slice (some ⟨b0, off, none⟩) L q3] : Array Value)[j]?) ∧ (∀ j, w'.cell? ⟨w.heap.size + 1 + 1, j, none⟩ = (#[.int .i64 (n : Nat), .int .i64 ((n : Int) - (L : Nat)), .bool true, .int .i64 y.k, .int .i64 y.n, .string y.s, .int .i64 hi.k, .int .i64 hi.n, .string hi.s] : Array Value)[j]?) ∧ w'.cell? ⟨b0, off + k * 3, none⟩ = some (.int .i64 y.k) ∧ w'.cell? ⟨b0, off + k * 3 + 1, none⟩ = some (.int .i64 y.n) ∧ w'.cell? ⟨b0, off + k * 3 + 2, none⟩ = some (.string y.s))
                (first | (with_reducible exact ⟨rowc RC.out, rowc RS0.out, HX.out.1, HX.out.2.1, HX.out.2.2⟩) | exact ⟨rowc_drew RC.out, rowc_drew RS0.out, HX.out.1, HX.out.2.1, HX.out.2.2⟩)
                (first
                | (go_at_call 89; (with_reducible refine (HB2.out _).mono ?_); rintro e w9 ⟨rfl, hb9⟩; (first | (with_reducible have hbs := drew_first hb9) | (have hbs := hb9)); replace HX := Lib.hid (HX.out.below hbs (by omega)); replace RC := Lib.hid (row_keep hbs RC.out); replace RS0 := Lib.hid (row_keep hbs RS0.out); replace HBq := Lib.hid (HBq.out.trans (hbs.mono HBq.out.size)); clear hb9 hbs))
              all_goals (go_wp2_with fail; go_meet)
              all_goals (exact ⟨rfl, HBq.out⟩)
            case rest =>
              obtain ⟨rfl, hbx⟩ := hcut
              replace RC := Lib.hid (row_keep hbx RC.out); replace RR := Lib.hid (row_keep hbx RR.out); replace RS0 := Lib.hid (row_keep hbx RS0.out); replace Hbr := Lib.hid (Hbr.out.trans (hbx.mono Hbr.out.size)); replace hzr := Nat.lt_of_lt_of_le hzr hbx.size
              clear HX; have HX := Lib.hid (HX0.out.below Hbr.out hlt0)
              clear hbx cC cS
              have cC := rowc RC.out; have cS := rowc RS0.out; have fS := rowf RS0.out
              obtain ⟨w7, rfl⟩ : ∃ w7 : World, w7 = wc := ⟨_, rfl⟩
              obtain ⟨hx0, hx1, hx2⟩ := HX.out
              go_wp2_with fail
              obtain ⟨p1, p2, p3, p4⟩ := set3_row (x := .int .i64 y.k) (y := .int .i64 y.n) (z := .string y.s) 6 RS0.out (by simp)
              replace RS0 := Lib.hid (p1.trans (show _ = some (.cells #[.int .i64 (n : Nat), .int .i64 ((n : Int) - (L : Nat)), .bool true, .int .i64 y.k, .int .i64 y.n, .string y.s, .int .i64 y.k, .int .i64 y.n, .string y.s] 56 (0, 0)) from rfl)); replace RC := Lib.hid ((p2 _ (by omega)).trans RC.out); replace RR := Lib.hid ((p2 _ (by omega)).trans RR.out); replace Hbr := Lib.hid (Hbr.out.trans (p3.mono (by omega)))
              replace hzr := Nat.lt_of_lt_of_le hzr (Nat.le_of_eq p4.symm)
              clear HX; have HX := Lib.hid (HX0.out.below Hbr.out hlt0)
              clear p1 p2 p3 p4 cC cS fS hx0 hx1 hx2
              go_roundw
              case rel =>
                refine ⟨k + 1, by omega, by go_num, Hbr.out, hzr, RC.out, RR.out, ?_⟩
                rw [Hf.out.1, Hf.out.2]; exact RS0.out
              case measure => simp [intOf]; omega
    · obtain rfl : k = L := by omega
      have htk : c.vals.take k = c.vals := by rw [← HL.out]; exact List.take_length
      rw [htk] at RS
      simp only [stA] at RS
      obtain ⟨lo, hlo⟩ : ∃ lo, loOf c.vals = lo := ⟨_, rfl⟩
      obtain ⟨hi, hhi⟩ : ∃ hi, hiOf c.vals = hi := ⟨_, rfl⟩
      rw [hlo, hhi] at RS
      have Hlo := Lib.hid hlo; have Hhi := Lib.hid hhi
      clear hlo hhi
      have cS := rowc RS.out
      go_wp2_with (refine wpList_store_part rfl 56 _ _ rfl (w.heap.size + 1) 0 _ 56 #[.int .i64 (n : Nat), .int .i64 ((n : Int) - (k : Nat)), .bool bb, .int .i64 lo.k, .int .i64 lo.n, .string lo.s, .int .i64 hi.k, .int .i64 hi.n, .string hi.s] rfl rfl RR.out (by kernel_rfl) (by simp [Value.oneCell']) (Nat.le_of_ble_eq_true rfl) #[.int .i64 (n : Nat), .int .i64 ((n : Int) - (k : Nat)), .bool bb, .int .i64 lo.k, .int .i64 lo.n, .string lo.s, .int .i64 hi.k, .int .i64 hi.n, .string hi.s] rfl ?_; intro w5 rR5 hoth hbl hsz5; have hbw5 := Lib.hid (Hbr.out.trans (hbl.mono (by omega))); have RR5 := Lib.hid rR5; clear hoth hbl hsz5 rR5)
      refine bodyPost_ret (v := .agg #[.int .i64 (n : Nat), .int .i64 ((n : Int) - (k : Nat)), .bool bb, .int .i64 lo.k, .int .i64 lo.n, .string lo.s, .int .i64 hi.k, .int .i64 hi.n, .string hi.s]) (results_cell_row Tryz.results43 _ _ (w.heap.size + 1) 56 _ (0, 0) _ rfl RR5.out Tryz.underlying56 rfl (by kernel_rfl)) rfl ⟨ret_of (by rw [Hlo.out, Hhi.out]; rfl), hbw5.out⟩
end Go.Proofs.YtpbkmfnfcdhhjaaGreatDoor
