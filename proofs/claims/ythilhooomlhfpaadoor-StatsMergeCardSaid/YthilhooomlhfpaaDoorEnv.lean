/- From the row's list of variables to the errors' environment of the walks. -/
import Derived.Test.YthilhooomlhfpaaDoorCode
namespace Go.Proofs.YthilhooomlhfpaaDoor
open Go Go.RowKit Go.ChangeShapes

def errText : Nat → List UInt8
  | 1 => [115, 104, 114, 101, 100, 99, 111, 108, 58, 32, 116, 101, 120, 116]
  | 2 => [115, 104, 114, 101, 100, 99, 111, 108, 58, 32, 98, 111, 117, 110, 100]
  | 3 => [115, 104, 114, 101, 100, 99, 111, 108, 58, 32, 115, 104, 97, 112, 101]
  | 4 => [115, 104, 114, 101, 100, 99, 111, 108, 58, 32, 107, 105, 110, 100]
  | 5 => [115, 104, 114, 101, 100, 99, 111, 108, 58, 32, 110, 97, 109, 101]
  | 6 => [115, 104, 114, 101, 100, 99, 111, 108, 58, 32, 110, 111, 110, 101]
  | 7 => [115, 104, 114, 101, 100, 99, 111, 108, 58, 32, 115, 117, 109]
  | _ => [115, 104, 114, 101, 100, 99, 111, 108, 58, 32, 115, 112, 97, 99, 101]
def errName : Nat → String
  | 1 => "shredcol/api.ErrText"
  | 2 => "shredcol/api.ErrBound"
  | 3 => "shredcol/api.ErrShape"
  | 4 => "shredcol/api.ErrKind"
  | 5 => "shredcol/api.ErrName"
  | 6 => "shredcol/api.ErrNone"
  | 7 => "shredcol/api.ErrSum"
  | _ => "shredcol/api.ErrSpace"
def errRow (k : Nat) : String × List UInt8 × Nat := (errName k, errText k, gErr k)
def errDatum (k : Nat) : String × DataW Unit := (errName k, .iface "*errors.errorString" (.ptr (.agg [.lit (.string (errText k))])))
def handleRow : String × DataW Unit := ("errors.errorType", .iface "internal/reflectlite.rtype" (.agg [.ptr (.lit (.string [101, 114, 114, 111, 114]))]))
/-- all nine -/
def fullLaid : List (String × DataW Unit) := [handleRow, errDatum 1, errDatum 2, errDatum 3, errDatum 4, errDatum 5, errDatum 6, errDatum 7, errDatum 8]

theorem err_named : ∀ x ∈ [errRow 1, errRow 2, errRow 3, errRow 4, errRow 5, errRow 6, errRow 7, errRow 8], Tryd.prog.globalNamed x.1 = some x.2.2 ∧ (Tryd.prog.globals[x.2.2]?).map (·.type) = some 38 := by
  intro x hx
  simp only [List.mem_cons, List.not_mem_nil, or_false] at hx
  rcases hx with rfl | rfl | rfl | rfl | rfl | rfl | rfl | rfl <;> exact ⟨by kernel_rfl, by kernel_rfl⟩

theorem e_et : Tryd.prog.globalNamed "errors.errorType" = some 8 := by kernel_rfl
theorem e_rt : (Tryd.prog.cutTypes.find? (·.1 == "internal/reflectlite.rtype")).map (·.2) = some 207 := by kernel_rfl
theorem e_size : Tryd.prog.types.size = 262 := by kernel_rfl
theorem e_oneRow : ((List.range 262).filter fun t => Tryd.prog.rowNamed t [101, 114, 114, 111, 114]) = [38] := by kernel_rfl

theorem laid_split {W : World} (h : laidMetH Tryd.prog fullLaid W) : laidMet Tryd.prog [errDatum 1, errDatum 2, errDatum 3, errDatum 4, errDatum 5, errDatum 6, errDatum 7, errDatum 8] W ∧ handlesMet Tryd.prog [handleRow] W := h

theorem env_of_laid {W : World} (h : laidMetH Tryd.prog fullLaid W) : ∃ adr, ErrEnv W adr := by
  obtain ⟨hl, hh⟩ := laid_split h
  obtain ⟨ads, hs, hnd⟩ := sents_of_laid [errRow 1, errRow 2, errRow 3, errRow 4, errRow 5, errRow 6, errRow 7, errRow 8] err_named hl
  match ads, hs, hnd with
  | [a1, a2, a3, a4, a5, a6, a7, a8], hs, hnd =>
    obtain ⟨c1, b1, c2, b2, c3, b3, c4, b4, c5, b5, c6, b6, c7, b7, c8, b8, _⟩ := hs
    refine ⟨fun k => [a1, a2, a3, a4, a5, a6, a7, a8].getD (k - 1) a1, ?_, ?_, ?_, ?_⟩
    · intro k h1 h8
      match k, h1, h8 with
      | 1, _, _ => exact c1
      | 2, _, _ => exact c2
      | 3, _, _ => exact c3
      | 4, _, _ => exact c4
      | 5, _, _ => exact c5
      | 6, _, _ => exact c6
      | 7, _, _ => exact c7
      | 8, _, _ => exact c8
    · intro k h1 h8
      match k, h1, h8 with
      | 1, _, _ => exact b1
      | 2, _, _ => exact b2
      | 3, _, _ => exact b3
      | 4, _, _ => exact b4
      | 5, _, _ => exact b5
      | 6, _, _ => exact b6
      | 7, _, _ => exact b7
      | 8, _, _ => exact b8
    · intro j k j1 j8 k1 k8 hjk
      have hj : j - 1 < [a1, a2, a3, a4, a5, a6, a7, a8].length := by simp; omega
      have hk : k - 1 < [a1, a2, a3, a4, a5, a6, a7, a8].length := by simp; omega
      have hjk : [a1, a2, a3, a4, a5, a6, a7, a8].getD (j - 1) a1 = [a1, a2, a3, a4, a5, a6, a7, a8].getD (k - 1) a1 := hjk
      rw [List.getD_eq_getElem?_getD, List.getD_eq_getElem?_getD, List.getElem?_eq_getElem hj, List.getElem?_eq_getElem hk, Option.getD_some, Option.getD_some] at hjk
      have := (List.getElem?_inj (j := k - 1) hj hnd).1 (by rw [List.getElem?_eq_getElem hj, List.getElem?_eq_getElem hk, hjk])
      omega
    · obtain ⟨name, u, ty, e1, e2, e3, e4, e5⟩ := hh _ (List.mem_singleton.2 rfl)
      have en : name = [101, 114, 114, 111, 114] := (Option.some.inj e1).symm
      subst en
      obtain rfl := Option.some.inj (e_rt.symm.trans e2)
      have hm : ty ∈ (List.range 262).filter fun t => Tryd.prog.rowNamed t [101, 114, 114, 111, 114] := List.mem_filter.2 ⟨List.mem_range.2 (by rw [← e_size]; exact e3), e4⟩
      rw [e_oneRow] at hm
      obtain rfl := List.mem_singleton.1 hm
      have hh : typeHandle Tryd.prog 38 = .pointer (some ⟨9, 38, none⟩) := by kernel_rfl
      rw [hh] at e5
      simpa using World.var?_cell e_et e5 0

set_option maxRecDepth 100000 in
set_option maxHeartbeats 400000 in
theorem coded_any {w : World} {adr : Nat → Addr} {e : GErr} {v : Value} (c : Int) (hE : ErrEnv w adr) (he : IsErr w adr e v) :
    Calls Tryd.prog 22 #[v, .int .i64 c] w fun r w' => r = .returned (.bool (e.code == c && e.at' == -1)) ∧ Below w.heap.size w w' := by
  by_cases hc : e.code = c
  · subst hc
    go_enter Tryd.func22, Tryd.ntmps22
    go_wp2_with fail
    refine (code_any hE he).mono ?_
    rintro r w1 ⟨rfl, hb⟩
    go_wp2_with fail
    go_ret
    refine ⟨ret_of ?_, hb⟩
    show Value.bool (e.at' == -1) = _
    simp
  · have hd : (e.code == c) = false := by simpa using hc
    clear hc
    go_enter Tryd.func22, Tryd.ntmps22
    go_wp2_with fail
    refine (code_any hE he).mono ?_
    rintro r w1 ⟨rfl, hb⟩
    go_wp2_with fail
    go_ret
    refine ⟨ret_of ?_, hb⟩
    show Value.bool false = _
    simp [hd]
end Go.Proofs.YthilhooomlhfpaaDoor
