/- EncEach at other kinds. -/
import Derived.Test.YtddefnnimbjnaaaDoorEncL12
namespace Go.Proofs.YtddefnnimbjnaaaDoor
set_option linter.unusedVariables false
open Go Go.RowKit Go.ChangeShapes

set_option maxRecDepth 100000 in
set_option maxHeartbeats 8000000 in
theorem encEach_goodo (kind : Int) (k2 : ¬ kind = 2) (k3 : ¬ kind = 3) (s : ByteArray) (m : Nat) (w : World) (adr : Nat → Addr) (hE : ErrEnv w adr) (hs : s.size ≤ 1000) (hn : m ≤ 300) (hm : manyErr kind (m : Int) = .nil) (l0 l1 l2 : List Val) (g0 g1 g2 : GErr) (ec0 ec1 ec2 : Nat)
    (hl0 : l0.length ≤ 20000) (hl1 : l1.length ≤ 20000) (hl2 : l2.length ≤ 20000)
    (z0 : ec0 = 0 ∧ g0 = .nil ∨ ec0 = 1 ∧ g0 = .sent 1 ∧ l0 = []) (z1 : ec1 = 0 ∧ g1 = .nil ∨ ec1 = 1 ∧ g1 = .sent 1 ∧ l1 = []) (z2 : ec2 = 0 ∧ g2 = .nil ∨ ec2 = 1 ∧ g2 = .sent 1 ∧ l2 = [] ∨ ec2 = 3 ∧ g2 = .sent 4 ∧ l2 = [])
    (hk : kind ≠ 2 ∧ kind ≠ 3 → ec2 = 3)
    (hA : ∀ w1, ErrEnv w1 adr → Calls Tryd.prog 29 #[.int .i64 kind, .string s, .int .i64 (m : Int)] w1 fun e w' => (∃ x ev, e = .returned (.tuple #[x, ev]) ∧ IsVals w' x l0 ∧ IsErr w' adr g0 ev) ∧ Below w1.heap.size w1 w')
    (hB : ∀ w1, ErrEnv w1 adr → Calls Tryd.prog 39 #[.int .i64 kind, .string s, .int .i64 (m : Int)] w1 fun e w' => (∃ x ev, e = .returned (.tuple #[x, ev]) ∧ IsVals w' x l1 ∧ IsErr w' adr g1 ev) ∧ Below w1.heap.size w1 w')
    (hC : ∀ w1, ErrEnv w1 adr → Calls Tryd.prog 30 #[.int .i64 kind, .string s, .int .i64 (m : Int)] w1 fun e w' => (∃ x ev, e = .returned (.tuple #[x, ev]) ∧ IsVals w' x l2 ∧ IsErr w' adr g2 ev) ∧ Below w1.heap.size w1 w')
    (hO0 : ∀ w1, Calls Tryd.prog 42 #[.int .i64 kind, .int .i64 0, .string s, .int .i64 (m : Int)] w1 fun e w' => (∃ y, e = .returned (.tuple #[y, .int .i64 (ec0 : Nat)]) ∧ IsVals w' y l0) ∧ Below w1.heap.size w1 w')
    (hO1 : ∀ w1, Calls Tryd.prog 42 #[.int .i64 kind, .int .i64 1, .string s, .int .i64 (m : Int)] w1 fun e w' => (∃ y, e = .returned (.tuple #[y, .int .i64 (ec1 : Nat)]) ∧ IsVals w' y l1) ∧ Below w1.heap.size w1 w')
    (hO2 : ∀ w1, Calls Tryd.prog 42 #[.int .i64 kind, .int .i64 2, .string s, .int .i64 (m : Int)] w1 fun e w' => (∃ y, e = .returned (.tuple #[y, .int .i64 (ec2 : Nat)]) ∧ IsVals w' y l2) ∧ Below w1.heap.size w1 w')
    (r : Option (List (List UInt8)))
    (hX : ∀ w1, ErrEnv w1 adr → Calls Tryd.prog 32 #[.string s, .int .i64 (m : Int)] w1 fun e w' => XRet (.iface 173 (.pointer (some (adr 1)))) w1.heap.size r e w' ∧ Below w1.heap.size w1 w')
    (hXO : ∀ w1, Calls Tryd.prog 43 #[.string s, .int .i64 (m : Int)] w1 fun e w' => XfRet r e w' ∧ Below w1.heap.size w1 w') :
    Calls Tryd.prog 13 #[.int .i64 kind, .string s, .int .i64 (m : Int)] w fun e w' => e = .returned (.bool true) ∧ Below w.heap.size w w' := by
  obtain ⟨jf, hjf, hzf⟩ := fault_info11
  have HE := Lib.hid hE
  have hM := fun w1 => show Calls Tryd.prog 41 #[.int .i64 kind, .int .i64 (m : Int)] w1 fun e w' => e = .returned (.agg #[.int .i64 0, .int .i64 (manyErr kind (m : Int)).at']) ∧ Below w1.heap.size w1 w' from by
    have h := manyError_any kind (m : Int) w1
    rw [show (manyErr kind (m : Int)).code = 0 by rw [hm]; rfl] at h
    exact h
  have HM := Lib.hid hM
  generalize (manyErr kind (m : Int)).at' = p at *
  have HCd := Lib.hid (fun (k : Nat) (h1 : 1 ≤ k) (h8 : k ≤ 8) (w1 : World) (x : Value) (h : ErrEnv w1 adr) (h2 : IsErr w1 adr (.sent k) x) => show Calls Tryd.prog 27 #[x, .int .i64 (k : Int)] w1 fun r w' => r = .returned (.bool true) ∧ Below w1.heap.size w1 w' from
    (coded_any (w := w1) (adr := adr) (e := .sent k) (v := x) (k : Int) h h2).mono fun r w' ⟨h1, h2⟩ => ⟨h1.trans (ret_of (by simp [GErr.code, GErr.at'])), h2⟩)
  have HCn := Lib.hid (fun (w1 : World) (x : Value) (h : ErrEnv w1 adr) (h2 : IsErr w1 adr .nil x) => show Calls Tryd.prog 27 #[x, .int .i64 0] w1 fun r w' => r = .returned (.bool true) ∧ Below w1.heap.size w1 w' from
    (coded_any (w := w1) (adr := adr) (e := .nil) (v := x) 0 h h2).mono fun r w' ⟨h1, h2⟩ => ⟨h1.trans (ret_of (by simp [GErr.code, GErr.at'])), h2⟩)
  have HSv := Lib.hid (fun (l : List Val) (hl : l.length ≤ 20000) x y w1 (h : IsVals w1 x l) (h2 : IsVals w1 y l) => show Calls Tryd.prog 19 #[x, y] w1 fun e w' => e = .returned (.bool true) ∧ Below w1.heap.size w1 w' from by
    have h' := sameValues_any x y l l w1 h h2 (by unfold maxLen; omega) (by unfold maxLen; omega)
    rwa [(sameB_iff l l).2 rfl] at h')
  have HA := Lib.hid hA; have HB := Lib.hid hB; have HCc := Lib.hid hC; have HO0 := Lib.hid hO0; have HO1 := Lib.hid hO1; have HO2 := Lib.hid hO2; have HX := Lib.hid hX; have HXO := Lib.hid hXO; have Hk := Lib.hid hk
  have Z0 := Lib.hid z0; have Z1 := Lib.hid z1; have Z2 := Lib.hid z2
  have HL0 := Lib.hid hl0; have HL1 := Lib.hid hl1; have HL2 := Lib.hid hl2
  have hi : (s.size : Int) ≤ 1000 := by omega
  have hmI : (m : Int) ≤ 300 := by omega
  clear hE hM hm hA hB hC hO0 hO1 hO2 hX hXO hk z0 z1 z2 hl0 hl1 hl2
  have d2 : (kind != 2) = true := by rw [bne_iff_ne]; exact k2
  have d3 : (kind != 3) = true := by rw [bne_iff_ne]; exact k3
  go_enter Tryd.func13, Tryd.ntmps13
  go_wp2_with fail
  refine (four_any _).mono ?_; rintro e w1 ⟨rfl, hb1⟩
  go_wp2_with fail
  refine (HM.out w1).mono ?_; rintro e w2 ⟨rfl, hb2⟩
  have hb2 := below_trans hb1 hb2
  clear hb1

  go_wp2_with (first
    | (refine wpList_alloc_row rfl 38 rfl jf _ _ hjf hzf rfl ?_)
    | (refine wpList_store_new rfl rfl 38 _ _ rfl rfl _ #[.int .i64 0, .int .i64 p] rfl (by kernel_rfl) rfl (by simp [Value.oneCell']) ?_))
  have hb3 : Below w.heap.size w (w2.alloc (.cells #[.int .i64 0, .int .i64 p] 38)) := hb2.alloc hb2.size _
  have hcl := heap_alloc_new w2 (.cells #[.int .i64 0, .int .i64 p] 38)
  generalize hpb : w2.heap.size = pb at *
  generalize w2.alloc (.cells #[.int .i64 0, .int .i64 p] 38) = w3 at *
  have Hcl := Lib.hid hcl
  clear hb2 hpb hcl

  refine (HA.out w3 (HE.out.below hb3)).mono ?_; rintro e w4 ⟨⟨x0, ev0, rfl, hx0, he0⟩, hb4⟩
  obtain ⟨ad0, cap0, rfl⟩ := hx0.form
  have HX0 := Lib.hid hx0; have HE0 := Lib.hid he0
  have Hcl4 := Lib.hid ((hb4.block pb (Array.getElem?_eq_some_iff.1 Hcl.out).1).trans Hcl.out)
  have hb4 := below_trans hb3 hb4
  clear hb3 hx0 he0
  go_wp2_with fail
  refine (HB.out w4 (HE.out.below hb4)).mono ?_; rintro e w5 ⟨⟨x1, ev1, rfl, hx1, he1⟩, hb5⟩
  obtain ⟨ad1, cap1, rfl⟩ := hx1.form
  have HX1 := Lib.hid hx1; have HE1 := Lib.hid he1
  have HX05 := Lib.hid (HX0.out.below hb5 (Nat.le_refl _)); have HE05 := Lib.hid (HE0.out.below hb5)
  have Hcl5 := Lib.hid ((hb5.block pb (Array.getElem?_eq_some_iff.1 Hcl4.out).1).trans Hcl4.out)
  have hb5 := below_trans hb4 hb5
  clear hb4 hx1 he1
  go_wp2_with fail
  refine (HCc.out w5 (HE.out.below hb5)).mono ?_; rintro e w6 ⟨⟨x2, ev2, rfl, hx2, he2⟩, hb6⟩
  obtain ⟨ad2, cap2, rfl⟩ := hx2.form
  have HX2 := Lib.hid hx2; have HE2 := Lib.hid he2
  have HX06 := Lib.hid (HX05.out.below hb6 (Nat.le_refl _)); have HE06 := Lib.hid (HE05.out.below hb6)
  have HX16 := Lib.hid (HX1.out.below hb6 (Nat.le_refl _)); have HE16 := Lib.hid (HE1.out.below hb6)
  have Hcl6 := Lib.hid ((hb6.block pb (Array.getElem?_eq_some_iff.1 Hcl5.out).1).trans Hcl5.out)
  have Hb6 := Lib.hid (below_trans hb5 hb6)
  clear hb5 hb6 hx2 he2

  have h3e := Hk.out ⟨k2, k3⟩
  have hg2 : g2 = .sent 4 ∧ l2 = [] := by
    rcases Z2.out with ⟨h, _⟩ | ⟨h, _⟩ | ⟨_, h1, h2⟩
    · omega
    · omega
    · exact ⟨h1, h2⟩
  have HE24 := Lib.hid (show IsErr w6 adr (.sent 4) ev2 by have := HE2.out; rwa [hg2.1] at this)
  have hl20 : decide ((0 : Int) < (l2.length : Int)) = false := by rw [hg2.2]; rfl
  have hl21 : decide (0 < l2.length) = false := by rw [hg2.2]; rfl
  clear h3e hg2 k2 k3
  go_wp2_with fail
  refine (HCd.out 4 (by decide) (by decide) w6 ev2 (HE.out.below Hb6.out) HE24.out).mono ?_; rintro e w7 ⟨rfl, hb7⟩
  have Hcl7 := Lib.hid ((hb7.block pb (Array.getElem?_eq_some_iff.1 Hcl6.out).1).trans Hcl6.out)
  have HX0z := Lib.hid (HX06.out.below hb7 (Nat.le_refl _)); have HX1z := Lib.hid (HX16.out.below hb7 (Nat.le_refl _)); have HX2z := Lib.hid (HX2.out.below hb7 (Nat.le_refl _))
  have HE0z := Lib.hid (HE06.out.below hb7); have HE1z := Lib.hid (HE16.out.below hb7); have HE2z := Lib.hid (HE2.out.below hb7)
  have Hbz := Lib.hid (below_trans Hb6.out hb7)
  have q0 : w7.cell? ⟨pb, 0, none⟩ = some (.int .i64 0) := by rw [Lib.cell_of_heap Hcl7.out]; rfl
  clear hb7
  go_wp2_with fail
  clear q0 hl20 hl21
  obtain ⟨wz, hwz⟩ : ∃ wz : World, wz = w7 := ⟨_, rfl⟩
  subst hwz

  go_loopw [15] (fun iv w9 => ∃ k : Nat, k ≤ 3 ∧ iv = .int .i64 (k : Nat) ∧ Below wz.heap.size wz w9) (fun iv _ => 3 - (intOf iv).toNat)
  case atStart => exact ⟨0, by decide, rfl, Below.refl _ _⟩
  case round =>
    obtain ⟨k, hk3, rfl, hb9⟩ := hrel
    have Hb9 := Lib.hid hb9
    have Hbw := Lib.hid (Hbz.out.trans (hb9.mono Hbz.out.size))
    clear hb9
    have h4 : k = 0 ∨ k = 1 ∨ k = 2 ∨ k = 3 := by omega
    clear hk3
    rcases h4 with rfl | rfl | rfl | rfl
    focus
      rcases Z0.out with ⟨rfl, rfl⟩ | ⟨rfl, rfl, hl⟩
      focus
        go_wp2_with fail
        refine (HO0.out wr).mono ?_; rintro e w10 ⟨⟨y, rfl, hy⟩, hb10⟩
        have HXk := Lib.hid ((HX0z.out.below Hb9.out (Nat.le_refl _)).below hb10 (Nat.le_refl _)); have HEk := Lib.hid ((HE0z.out.below Hb9.out).below hb10); have Hy := Lib.hid hy
        have Hb10 := Lib.hid (Hb9.out.trans (hb10.mono Hb9.out.size))
        clear hb10 hy
        go_wp2_with fail
        refine (HCn.out w10 ev0 (HE.out.below (Hbz.out.trans (Hb10.out.mono Hbz.out.size))) HEk.out).mono ?_; rintro e w11 ⟨rfl, hb11⟩
        have HXk11 := Lib.hid (HXk.out.below hb11 (Nat.le_refl _)); have Hy11 := Lib.hid (Hy.out.below hb11 (Nat.le_refl _))
        have Hb11 := Lib.hid (Hb10.out.trans (hb11.mono Hb10.out.size))
        clear hb11
        go_wp2_with fail
        refine (HSv.out _ HL0.out _ y w11 HXk11.out Hy11.out).mono ?_; rintro e w12 ⟨rfl, hb12⟩
        have Hb12 := Lib.hid (Hb11.out.trans (hb12.mono Hb11.out.size))
        clear hb12
        go_wp2_with fail
        go_roundw
        case rel => exact ⟨1, by decide, rfl, Hb12.out⟩
        case measure => simp [intOf]
      focus
        have hln : (l0.length : Int) ≤ 0 := by rw [hl]; decide
        clear hl
        go_wp2_with fail
        refine (HO0.out wr).mono ?_; rintro e w10 ⟨⟨y, rfl, hy⟩, hb10⟩
        have HXk := Lib.hid ((HX0z.out.below Hb9.out (Nat.le_refl _)).below hb10 (Nat.le_refl _)); have HEk := Lib.hid ((HE0z.out.below Hb9.out).below hb10); have Hy := Lib.hid hy
        have Hb10 := Lib.hid (Hb9.out.trans (hb10.mono Hb9.out.size))
        clear hb10 hy
        go_wp2_with fail
        refine (HCd.out 1 (by decide) (by decide) w10 ev0 (HE.out.below (Hbz.out.trans (Hb10.out.mono Hbz.out.size))) HEk.out).mono ?_; rintro e w11 ⟨rfl, hb11⟩
        have HXk11 := Lib.hid (HXk.out.below hb11 (Nat.le_refl _)); have Hy11 := Lib.hid (Hy.out.below hb11 (Nat.le_refl _))
        have Hb11 := Lib.hid (Hb10.out.trans (hb11.mono Hb10.out.size))
        clear hb11
        go_wp2_with fail
        refine (HSv.out _ HL0.out _ y w11 HXk11.out Hy11.out).mono ?_; rintro e w12 ⟨rfl, hb12⟩
        have Hb12 := Lib.hid (Hb11.out.trans (hb12.mono Hb11.out.size))
        clear hb12
        go_wp2_with fail
        go_roundw
        case rel => exact ⟨1, by decide, rfl, Hb12.out⟩
        case measure => simp [intOf]
    focus
      rcases Z1.out with ⟨rfl, rfl⟩ | ⟨rfl, rfl, hl⟩
      focus
        go_wp2_with fail
        refine (HO1.out wr).mono ?_; rintro e w10 ⟨⟨y, rfl, hy⟩, hb10⟩
        have HXk := Lib.hid ((HX1z.out.below Hb9.out (Nat.le_refl _)).below hb10 (Nat.le_refl _)); have HEk := Lib.hid ((HE1z.out.below Hb9.out).below hb10); have Hy := Lib.hid hy
        have Hb10 := Lib.hid (Hb9.out.trans (hb10.mono Hb9.out.size))
        clear hb10 hy
        go_wp2_with fail
        refine (HCn.out w10 ev1 (HE.out.below (Hbz.out.trans (Hb10.out.mono Hbz.out.size))) HEk.out).mono ?_; rintro e w11 ⟨rfl, hb11⟩
        have HXk11 := Lib.hid (HXk.out.below hb11 (Nat.le_refl _)); have Hy11 := Lib.hid (Hy.out.below hb11 (Nat.le_refl _))
        have Hb11 := Lib.hid (Hb10.out.trans (hb11.mono Hb10.out.size))
        clear hb11
        go_wp2_with fail
        refine (HSv.out _ HL1.out _ y w11 HXk11.out Hy11.out).mono ?_; rintro e w12 ⟨rfl, hb12⟩
        have Hb12 := Lib.hid (Hb11.out.trans (hb12.mono Hb11.out.size))
        clear hb12
        go_wp2_with fail
        go_roundw
        case rel => exact ⟨2, by decide, rfl, Hb12.out⟩
        case measure => simp [intOf]
      focus
        have hln : (l1.length : Int) ≤ 0 := by rw [hl]; decide
        clear hl
        go_wp2_with fail
        refine (HO1.out wr).mono ?_; rintro e w10 ⟨⟨y, rfl, hy⟩, hb10⟩
        have HXk := Lib.hid ((HX1z.out.below Hb9.out (Nat.le_refl _)).below hb10 (Nat.le_refl _)); have HEk := Lib.hid ((HE1z.out.below Hb9.out).below hb10); have Hy := Lib.hid hy
        have Hb10 := Lib.hid (Hb9.out.trans (hb10.mono Hb9.out.size))
        clear hb10 hy
        go_wp2_with fail
        refine (HCd.out 1 (by decide) (by decide) w10 ev1 (HE.out.below (Hbz.out.trans (Hb10.out.mono Hbz.out.size))) HEk.out).mono ?_; rintro e w11 ⟨rfl, hb11⟩
        have HXk11 := Lib.hid (HXk.out.below hb11 (Nat.le_refl _)); have Hy11 := Lib.hid (Hy.out.below hb11 (Nat.le_refl _))
        have Hb11 := Lib.hid (Hb10.out.trans (hb11.mono Hb10.out.size))
        clear hb11
        go_wp2_with fail
        refine (HSv.out _ HL1.out _ y w11 HXk11.out Hy11.out).mono ?_; rintro e w12 ⟨rfl, hb12⟩
        have Hb12 := Lib.hid (Hb11.out.trans (hb12.mono Hb11.out.size))
        clear hb12
        go_wp2_with fail
        go_roundw
        case rel => exact ⟨2, by decide, rfl, Hb12.out⟩
        case measure => simp [intOf]
    focus
      rcases Z2.out with ⟨rfl, rfl⟩ | ⟨rfl, rfl, hl⟩ | ⟨rfl, rfl, hl⟩
      focus
        go_wp2_with fail
        refine (HO2.out wr).mono ?_; rintro e w10 ⟨⟨y, rfl, hy⟩, hb10⟩
        have HXk := Lib.hid ((HX2z.out.below Hb9.out (Nat.le_refl _)).below hb10 (Nat.le_refl _)); have HEk := Lib.hid ((HE2z.out.below Hb9.out).below hb10); have Hy := Lib.hid hy
        have Hb10 := Lib.hid (Hb9.out.trans (hb10.mono Hb9.out.size))
        clear hb10 hy
        go_wp2_with fail
        refine (HCn.out w10 ev2 (HE.out.below (Hbz.out.trans (Hb10.out.mono Hbz.out.size))) HEk.out).mono ?_; rintro e w11 ⟨rfl, hb11⟩
        have HXk11 := Lib.hid (HXk.out.below hb11 (Nat.le_refl _)); have Hy11 := Lib.hid (Hy.out.below hb11 (Nat.le_refl _))
        have Hb11 := Lib.hid (Hb10.out.trans (hb11.mono Hb10.out.size))
        clear hb11
        go_wp2_with fail
        refine (HSv.out _ HL2.out _ y w11 HXk11.out Hy11.out).mono ?_; rintro e w12 ⟨rfl, hb12⟩
        have Hb12 := Lib.hid (Hb11.out.trans (hb12.mono Hb11.out.size))
        clear hb12
        go_wp2_with fail
        go_roundw
        case rel => exact ⟨3, by decide, rfl, Hb12.out⟩
        case measure => simp [intOf]
      focus
        have hln : (l2.length : Int) ≤ 0 := by rw [hl]; decide
        clear hl
        go_wp2_with fail
        refine (HO2.out wr).mono ?_; rintro e w10 ⟨⟨y, rfl, hy⟩, hb10⟩
        have HXk := Lib.hid ((HX2z.out.below Hb9.out (Nat.le_refl _)).below hb10 (Nat.le_refl _)); have HEk := Lib.hid ((HE2z.out.below Hb9.out).below hb10); have Hy := Lib.hid hy
        have Hb10 := Lib.hid (Hb9.out.trans (hb10.mono Hb9.out.size))
        clear hb10 hy
        go_wp2_with fail
        refine (HCd.out 1 (by decide) (by decide) w10 ev2 (HE.out.below (Hbz.out.trans (Hb10.out.mono Hbz.out.size))) HEk.out).mono ?_; rintro e w11 ⟨rfl, hb11⟩
        have HXk11 := Lib.hid (HXk.out.below hb11 (Nat.le_refl _)); have Hy11 := Lib.hid (Hy.out.below hb11 (Nat.le_refl _))
        have Hb11 := Lib.hid (Hb10.out.trans (hb11.mono Hb10.out.size))
        clear hb11
        go_wp2_with fail
        refine (HSv.out _ HL2.out _ y w11 HXk11.out Hy11.out).mono ?_; rintro e w12 ⟨rfl, hb12⟩
        have Hb12 := Lib.hid (Hb11.out.trans (hb12.mono Hb11.out.size))
        clear hb12
        go_wp2_with fail
        go_roundw
        case rel => exact ⟨3, by decide, rfl, Hb12.out⟩
        case measure => simp [intOf]
      focus
        clear hl
        go_wp2_with fail
        refine (HO2.out wr).mono ?_; rintro e w10 ⟨⟨y, rfl, hy⟩, hb10⟩
        have Hb10 := Lib.hid (Hb9.out.trans (hb10.mono Hb9.out.size))
        clear hb10 hy
        go_wp2_with fail
        go_roundw
        case rel => exact ⟨3, by decide, rfl, Hb10.out⟩
        case measure => simp [intOf]
    focus
      go_wp2_with fail
      cases r with
      | none =>
        refine (HX.out wr (HE.out.below Hbw.out)).mono ?_; rintro e w20 ⟨rfl, hb20⟩
        have hb20 := below_trans Hbw.out hb20
        go_wp2_with fail
        refine (HXO.out w20).mono ?_; rintro e w21 ⟨⟨u, ls, ok, rfl, hIs, hll, hr⟩, hb21⟩
        have hb21 := below_trans hb20 hb21
        cases ok with
        | true => cases hr
        | false =>
          clear hr hIs hll hb20
          go_wp2_with fail
          refine (HCd.out 1 (by decide) (by decide) w21 _ (HE.out.below hb21) ⟨by decide, by decide, rfl⟩).mono ?_; rintro e w22 ⟨rfl, hb22⟩
          go_wp2_with fail
          go_ret
          exact ⟨ret_of (by simp), below_trans hb21 hb22⟩
      | some L =>
        refine (HX.out wr (HE.out.below Hbw.out)).mono ?_; rintro e w20 ⟨⟨u, ls, rfl, hbl, ho⟩, hb20⟩
        have HIt := Lib.hid (IsStrs.of_own ho)
        obtain ⟨adt, capt, rfl⟩ := bslice_form ho
        have Hbl := Lib.hid hbl
        have hb20 := below_trans Hbw.out hb20
        clear ho hbl
        go_wp2_with fail
        refine (HXO.out w20).mono ?_; rintro e w21 ⟨⟨u2, ls2, ok, rfl, hIs, hll, hr⟩, hb21⟩
        cases ok with
        | false => cases hr
        | true =>
          have heq : ls = ls2 := bytesL_inj (by rw [Hbl.out]; exact Option.some.inj hr)
          subst heq
          have HIt1 := Lib.hid (HIt.out.below hb21 (Nat.le_refl _))
          have HIw := Lib.hid hIs
          obtain ⟨adw, capw, rfl⟩ := hIs.form
          have Hb21 := Lib.hid (below_trans hb20 hb21)
          clear hr hIs hb20 hb21
          obtain ⟨wy, hwy⟩ : ∃ wy : World, wy = w21 := ⟨_, rfl⟩
          subst hwy
          go_wp2_with fail
          go_loopw [24] (fun iv wr => ∃ j : Nat, j ≤ ls.length ∧ iv = .int .i64 (j : Nat) ∧ Below wy.heap.size wy wr) (fun iv _ => ls.length - (intOf iv).toNat)
          case atStart => exact ⟨0, Nat.zero_le _, rfl, Below.refl _ _⟩
          case round =>
            obtain ⟨j, hj, rfl, hb30⟩ := hrel
            have Hb30 := Lib.hid hb30
            clear hb30
            by_cases hlt : j < ls.length
            · have hltI : (j : Int) < (ls.length : Int) := by omega
              obtain ⟨b0, o0, rfl, hq0, hlt0, hc0⟩ := (HIt1.out.below Hb30.out (Nat.le_refl _)).at (by omega)
              obtain ⟨b1, o1, rfl, hq1, hlt1, hc1⟩ := (HIw.out.below Hb30.out (Nat.le_refl _)).at (by omega)
              have hcx := hc0 j _ (List.getElem?_eq_getElem hlt)
              have hcy := hc1 j _ (List.getElem?_eq_getElem hlt)
              generalize ls[j] = z at *
              have hzz : (z.toList == z.toList) = true := by simp
              clear hc0 hc1 hq0 hq1
              go_wp2_with fail
              go_quiet (fail)
              go_wp2_with fail
              go_roundw
              case rel => exact ⟨j + 1, by omega, by go_num, below_drewN Hb30.out _⟩
              case measure => simp [intOf]; omega
            · obtain rfl : j = ls.length := by omega
              go_wp2_with fail
              go_ret
              exact ⟨rfl, Hb21.out.trans (Hb30.out.mono Hb21.out.size)⟩
end Go.Proofs.YtddefnnimbjnaaaDoor
