/- The walk of data.text (over data.value's contract). Written by gen_dx1.py. -/
import Derived.Test.YthfljcpfcnddhaaGreatDoorDx0
import Derived.Test.YthfljcpfcnddhaaGreatDoorDc2
import Derived.Test.YthfljcpfcnddhaaGreatDoorTv4
import Derived.Test.YthfljcpfcnddhaaGreatDoorShelf
namespace Go.Proofs.YthfljcpfcnddhaaGreatDoor
set_option linter.unusedVariables false
set_option linter.unusedSimpArgs false
open Go Go.RowKit Go.ChangeShapes

def strV (s : List UInt8) : Value := .string ⟨s.toArray⟩
theorem str_info : (Tryz.prog.info? 9).map (fun i => (i.zero, i.size, i.bytes)) = some (some (.string ByteArray.empty), 1, 16) := by kernel_rfl
theorem join_own {w : World} {B : Nat} {v : Value} {L : List (List UInt8)} (h : w.ownsRow B 9 1 v L.length (L.map strV)) (h1 : L.length ≤ 1000000) (h2 : (Lib.join L [44]).length ≤ 140737488355328) :
    Calls Tryz.prog 60 #[v, .string ⟨#[44]⟩] w fun e w' => e = .returned (strV (Lib.join L [44])) ∧ Below w.heap.size w w' := by
  rcases h.2 with ⟨rfl, h0⟩ | ⟨g, cap, cur, rfl, hB, hg, h4, _⟩
  · have hL : L = [] := List.eq_nil_of_length_eq_zero h0
    subst hL
    refine (Tryz.strings_Join_none none 0 ⟨#[44]⟩ w).mono ?_
    rintro e w' ⟨rfl, rfl⟩
    exact ⟨rfl, Below.refl _ _⟩
  · have hm : (L.map fun s => (⟨s.toArray⟩ : ByteArray)).map (·.data.toList) = L := by
      rw [List.map_map]
      conv => rhs; rw [← List.map_id L]
      exact List.map_congr_left fun s _ => by simp
    have hj := Tryz.strings_Join g 0 cap (L.map fun s => (⟨s.toArray⟩ : ByteArray)) ⟨#[44]⟩ w (fun j x hj => by
      rw [List.getElem?_map] at hj
      cases hx : L[j]? with
      | none => simp [hx] at hj
      | some s =>
        simp [hx] at hj
        subst hj
        have hjl := (List.getElem?_eq_some_iff.1 hx).1
        rw [Nat.zero_add, h.cellAt j (by omega), List.getElem?_map, hx]
        rfl) (Array.getElem?_eq_some_iff.1 hg).1 (by rw [List.length_map]; omega) (by rw [List.length_map]; exact h4) (by rw [hm]; exact h2)
    rw [hm, List.length_map] at hj
    exact hj
theorem ba_app (a b : List UInt8) : (⟨a.toArray⟩ : ByteArray) ++ ⟨b.toArray⟩ = ⟨(a ++ b).toArray⟩ := by
  apply ByteArray.ext
  rw [ByteArray.data_append]
  simp
theorem ba3 (p q : UInt8) (J : List UInt8) : (⟨#[p]⟩ : ByteArray) ++ ⟨J.toArray⟩ ++ ⟨#[q]⟩ = ⟨([p] ++ J ++ [q]).toArray⟩ := by
  have h1 := ba_app [p] J
  have h2 := ba_app ([p] ++ J) [q]
  rw [← h2, ← h1]
theorem ba_name (s : ByteArray) (J : List UInt8) : s ++ ⟨#[58]⟩ ++ ⟨J.toArray⟩ = ⟨(s.data.toList ++ [58] ++ J).toArray⟩ := by
  have h0 : (⟨s.data.toList.toArray⟩ : ByteArray) = s := by apply ByteArray.ext; simp
  have h1 := ba_app s.data.toList [58]
  have h2 := ba_app (s.data.toList ++ [58]) J
  rw [← h2, ← h1, h0]
theorem map_flat (L : List (List UInt8)) : L.flatMap (fun s => [strV s]) = L.map strV := by
  induction L with
  | nil => rfl
  | cons a r ih => rw [List.flatMap_cons, ih]; rfl
theorem grown_row0' {w w' : World} {B s n b : Nat} {e T : TypeId} {v : Value} {xs : List Value} {cs : Array Value} {fr : Nat × Nat} (hown : w.ownsRow B e s v n xs) (hg : w.grownBy w' v.ownBlock) (hb : w.heap[b]? = some (.cells cs T fr)) (he : T ≠ e) :
    w'.heap[b]? = some (.cells cs T fr) := (hg.block b (row_lt hb) (fun e1 => own_neB hown hb he e1.symm)).trans hb
def TextRet (s : List UInt8) (w : World) (e : Ending) (w' : World) : Prop := e = .returned (strV s) ∧ Below w.heap.size w w'

set_option maxRecDepth 100000 in
set_option maxHeartbeats 32000000 in
theorem text_any (T : Val → List UInt8) (K : Int → Prop) (HT : ∀ (k : Int) (x : Val) (w1 : World), K k → okB k x = true → x.Ok → Calls Tryz.prog 61 #[.agg (valA x)] w1 (TextRet (T x) w1)) :
    ∀ (d : Dt) (n : Nd) (u ul uf : Value) (one : Bool) (w : World), IsNds (· < w.heap.size) w u n.sub → (∀ x ∈ nodes n, x.Ok1) → (∀ x ∈ nodes n, okRep x) → (∀ x ∈ nodes n, x.kind ≠ 0 → K x.kind) → IsDts (· < w.heap.size) w ul d.l → IsDts (· < w.heap.size) w uf d.f → (∀ x ∈ dts d, x.Ok1) → datE n one d = 0 →
    (∀ x ∈ nodes n, x.sub.length ≤ 1000000) → (dtxt T n one d).length ≤ 100000000000000 →
    Calls Tryz.prog 36 #[.agg (ndA n u), .agg (dtA d ul uf), .bool one] w (TextRet (dtxt T n one d) w) := by
  apply Dt.ind
  intro d IHl IHf n u ul uf one w hN hO hR hK hl hf hD hz hs4 hcap
  have hD0 := hD d (by rw [dts_eq]; exact List.mem_cons_self ..)
  have hR0 := hR n (by rw [nodes_eq]; exact List.mem_cons_self ..)
  have hK0 := hK n (by rw [nodes_eq]; exact List.mem_cons_self ..)
  have hDl : ∀ x ∈ dtsL d.l, x.Ok1 := fun x hx => hD x (by rw [dts_eq]; exact List.mem_cons_of_mem _ (List.mem_append_left _ hx))
  have hDf : ∀ x ∈ dtsL d.f, x.Ok1 := fun x hx => hD x (by rw [dts_eq]; exact List.mem_cons_of_mem _ (List.mem_append_right _ hx))
  have HVL := Lib.hid (fun (hk : n.kind ≠ 0) (ho : okB n.kind d.v = true) (w1 : World) => HT n.kind d.v w1 (hK0 hk) ho hD0.v)
  have HIL := Lib.hid IHl; have HIF := Lib.hid IHf; have HN := Lib.hid hN; have HO := Lib.hid hO; have HR := Lib.hid hR; have HKK := Lib.hid hK; have HLl := Lib.hid hl; have HLf := Lib.hid hf; have HDl := Lib.hid hDl; have HDf := Lib.hid hDf
  have HLB := Lib.hid hD0.l; have HFB := Lib.hid hD0.f; have HN4 := Lib.hid (hs4 n (by rw [nodes_eq]; exact List.mem_cons_self ..)); have HR0 := Lib.hid hR0; have HZ := Lib.hid hz; have HCAP := Lib.hid hcap
  have HS4 := Lib.hid hs4
  clear hs4 IHl IHf hN hO hR hK hDl hDf hD hD0 hR0 hK0 hz hcap HT
  obtain ⟨au, cu, rfl⟩ := HN.out.form
  obtain ⟨al, cl, rfl⟩ := hl.form
  obtain ⟨af, cf, rfl⟩ := hf.form
  clear hl hf
  obtain ⟨R, hRr⟩ : ∃ R, dtxt T n one d = R := ⟨_, rfl⟩
  rw [hRr] at HCAP ⊢
  have HRr := Lib.hid hRr
  clear hRr
  obtain ⟨ns, hns⟩ : ∃ ns, n.sub.length = ns := ⟨_, rfl⟩
  obtain ⟨nl, hnl⟩ : ∃ nl, d.l.length = nl := ⟨_, rfl⟩
  obtain ⟨nf, hnf⟩ : ∃ nf, d.f.length = nf := ⟨_, rfl⟩
  rw [hns] at HN HN4; rw [hnl] at HLl HLB; rw [hnf] at HLf HFB
  rw [hns, hnl, hnf]
  have HNS := Lib.hid hns; have HNL := Lib.hid hnl; have HNF := Lib.hid hnf
  clear hns hnl hnf
  unfold ndA dtA at *
  unfold valA at HVL
  obtain ⟨no, hno⟩ : ∃ no, d.no = no := ⟨_, rfl⟩
  rw [hno]
  have HNO := Lib.hid hno
  clear hno
  obtain ⟨i0, hi, hz0, hz1, hz2⟩ := info_parts str_info
  go_enter Tryz.func36, Tryz.ntmps36
  go_upto_region 1 with fail
  have hb0 := rows2 (w := w) (A := .cells #[.int .i64 n.id, .string n.name, .int .i64 n.rep, .int .i64 n.kind, .slice au ns cu] 24) (B := .cells #[.bool no, .int .i64 d.v.k, .int .i64 d.v.n, .string d.v.s, .slice al nl cl, .slice af nf cf] 29) (Below.refl _ _)
  generalize ((w.alloc (.cells #[.int .i64 n.id, .string n.name, .int .i64 n.rep, .int .i64 n.kind, .slice au ns cu] 24)).alloc (.cells #[.bool no, .int .i64 d.v.k, .int .i64 d.v.n, .string d.v.s, .slice al nl cl, .slice af nf cf] 29)) = w1 at *
  obtain ⟨rA, rB, hbw, hz1w⟩ := hb0
  have HW := Lib.hid hbw; have RA := Lib.hid rA; have RB := Lib.hid rB; have HZ1 := Lib.hid hz1w
  clear rA rB hbw hz1w
  have cA := rowc RA.out; have cB := rowc RB.out
  have eq1 := HRr.out
  rw [dtxt_eq, HNO.out] at eq1
  have HEQ := Lib.hid eq1
  clear eq1
  cases no with
  | true =>
    have h1 := HEQ.out
    rw [if_pos rfl] at h1
    subst h1
    go_wp2_with fail
    go_ret
    exact ⟨rfl, HW.out⟩
  | false =>
  have eq1 := HEQ.out
  rw [if_neg (by decide)] at eq1
  clear HEQ
  by_cases hl3 : (!one && decide (n.rep = 3)) = true
  · rw [if_pos hl3] at eq1
    have HEQ := Lib.hid eq1
    obtain ⟨rfl, hr3⟩ : one = false ∧ n.rep = 3 := by simpa using hl3
    have d3 : ((n.rep : Int) == 3) = true := by rw [hr3]; rfl
    have hzl : datEL n d.l = 0 ∧ nl ≤ 40 := by
      have h := HZ.out
      rw [datE_list hr3, HNL.out] at h
      split at h
      · split at h
        · omega
        · exact ⟨h, by omega⟩
      · omega
    have HZL := Lib.hid (datEL_zero n d.l hzl.1)
    have HN40 := Lib.hid hzl.2
    clear eq1 hl3 hr3 hzl
    go_wp2_with fail
    clear cA cB d3
    go_loopw [7, 27] (fun s7 i wr => ∃ (k : Nat) (v7 : Value), k ≤ nl ∧ i = .int .i64 (k : Nat) ∧ v7 = s7 ∧ Hid (wr.ownsRow w1.heap.size 9 1 v7 (dtxtL T n (d.l.take k)).length ((dtxtL T n (d.l.take k)).map strV)) ∧ Hid (Below w1.heap.size w1 wr)) (fun _ i _ => nl - (intOf i).toNat)
    case atStart => exact ⟨0, _, Nat.zero_le _, rfl, rfl, World.ownsRow_nil _ _ _ _, Below.refl _ _⟩
    case round =>
      obtain ⟨k, v7, hk, rfl, hv7, HOW, HBr⟩ := hrel
      subst hv7
      have RAr := Lib.hid (row_keep HBr.out RA.out)
      by_cases hlt : k < nl
      case neg =>
        obtain rfl : k = nl := Nat.le_antisymm hk (Nat.le_of_not_lt hlt)
        have hq := HOW.out
        rw [List.take_of_length_le (Nat.le_of_eq HNL.out)] at hq
        have hjl : (Lib.join (dtxtL T n d.l) [44]).length + 2 = R.length := by rw [← HEQ.out]; simp
        have HJ := Lib.hid (join_own hq (by rw [dtxtL_len, HNL.out]; have := HN40.out; omega) (by have := HCAP.out; omega))
        obtain ⟨J, hJ⟩ : ∃ J, Lib.join (dtxtL T n d.l) [44] = J := ⟨_, rfl⟩
        have HEQ2 := HEQ.out
        rw [hJ] at HEQ2 hjl HJ
        have HEQ3 := Lib.hid HEQ2
        have dk : decide (k < k) = false := by simp
        have hs1 : ¬ 9223372036854775807 < 1 + J.length := by have := HCAP.out; omega
        have hs2 : ¬ 9223372036854775807 < 1 + J.length + 1 := by have := HCAP.out; omega
        unfold strV at HJ
        clear hlt hk hq hjl HEQ2 hJ
        go_wp2_with fail
        refine HJ.out.mono ?_; rintro e w5 ⟨rfl, hb5⟩
        have HB5 := Lib.hid hb5
        clear hb5
        go_wp2_with fail
        go_ret
        refine ⟨?_, HW.out.trans ((HBr.out.mono HW.out.size).trans (HB5.out.mono (Nat.le_trans HW.out.size HBr.out.size)))⟩
        rw [← HEQ3.out]
        exact congrArg (fun s => Ending.returned (Value.string s)) (ba3 91 93 J)
      obtain ⟨x, hx⟩ : ∃ x, d.l[k]? = some x := ⟨_, List.getElem?_eq_getElem (by rw [HNL.out]; exact hlt)⟩
      have hxm : x ∈ d.l := List.mem_of_getElem? hx
      have hbw := HW.out.trans (HBr.out.mono HW.out.size)
      obtain ⟨b1, off1, h17, hPb1, hb1, hat1⟩ := (HLl.out.under hbw).at (by rw [HNL.out]; omega)
      subst h17
      obtain ⟨xu, xt, hcx, hu, ht⟩ := hat1 k x hx
      obtain ⟨xau, xcu, rfl⟩ := hu.form
      obtain ⟨xaf, xcf, rfl⟩ := ht.form
      have hI := HIL.out x hxm n (.slice au ns cu) (.slice xau x.l.length xcu) (.slice xaf x.f.length xcf) true
      have hvt := dtxtL_take T n hx
      have hlen : (dtxt T n true x).length ≤ 100000000000000 := by
        have h1 := HCAP.out
        have h2 := join_mem [44] (dtxtL_mem T n hx)
        rw [← HEQ.out] at h1
        simp only [List.length_append, List.length_cons, List.length_nil] at h1
        omega
      have hll : (dtxtL T n (d.l.take k)).length = k := by rw [dtxtL_len, List.length_take, HNL.out]; omega
      have HVT := Lib.hid hvt; have HLEN := Lib.hid hlen; have HLL := Lib.hid hll
      unfold DtAt dtA at hcx
      have HCX := Lib.hid hcx; have HI := Lib.hid hI; have HU := Lib.hid hu; have HT := Lib.hid ht; have HX := Lib.hid hx; have HXM := Lib.hid hxm
      have Hlt := Lib.hid hlt; have HBW := Lib.hid hbw
      have hin : (k : Int) < (nl : Int) := Int.ofNat_lt.2 hlt
      have dk : decide (k < nl) = true := decide_eq_true hlt
      clear hx hxm hbw hat1 hcx hu ht hI hlt hk hPb1 hb1 hvt hlen hll
      go_upto_region 8 with (refine wpList_load_cells rfl 29 _ rfl b1 (off1 + k * 6) rfl #[.bool x.no, .int .i64 x.v.k, .int .i64 x.v.n, .string x.v.s, .slice xau x.l.length xcu, .slice xaf x.f.length xcf] _ HCX.out Tryz.underlying29 rfl dt_info ?_)
      have hba := (Below.refl wr.heap.size wr).alloc (Nat.le_refl _) (.cells #[.bool x.no, .int .i64 x.v.k, .int .i64 x.v.n, .string x.v.s, .slice xau x.l.length xcu, .slice xaf x.f.length xcf] 29)
      have hbw3 := HBW.out.trans (hba.mono HBW.out.size)
      have rX := heap_alloc_new wr (.cells #[.bool x.no, .int .i64 x.v.k, .int .i64 x.v.n, .string x.v.s, .slice xau x.l.length xcu, .slice xaf x.f.length xcf] 29)
      have hcl := HI.out _ ((HN.out.under hbw3).mono fun b hb _ => Nat.lt_of_lt_of_le hb hbw3.size) HO.out HR.out HKK.out ((HU.out.under (hba.mono HBW.out.size)).mono fun b hb _ => Nat.lt_of_lt_of_le hb hbw3.size) ((HT.out.under (hba.mono HBW.out.size)).mono fun b hb _ => Nat.lt_of_lt_of_le hb hbw3.size) (fun z hz => HDl.out z (dtsL_mem HXM.out hz)) (HZL.out x HXM.out) HS4.out HLEN.out
      replace RAr := Lib.hid (row_keep hba RAr.out); replace HOW := Lib.hid (own_blw HOW.out hba); replace HBr := Lib.hid (HBr.out.trans (hba.mono HBr.out.size))
      have RX := Lib.hid rX; have HCL := Lib.hid hcl
      obtain ⟨gx, hgx⟩ : ∃ gx, wr.heap.size = gx := ⟨_, rfl⟩
      rw [hgx] at RX ⊢
      clear hba hbw3 hcl rX hgx HCX
      generalize (wr.alloc (.cells #[.bool x.no, .int .i64 x.v.k, .int .i64 x.v.n, .string x.v.s, .slice xau x.l.length xcu, .slice xaf x.f.length xcf] 29)) = w3 at *
      have cA := rowc RAr.out; have cX := rowc RX.out
      unfold TextRet strV at HCL
      go_wp2_with fail
      refine HCL.out.mono ?_; rintro e w4 ⟨rfl, hb4⟩
      replace HOW := Lib.hid (own_blw HOW.out hb4); replace HBr := Lib.hid (HBr.out.trans (hb4.mono HBr.out.size))
      have h63 : (dtxtL T n (d.l.take k)).length + 1 ≤ maxLen := by rw [HLL.out]; have := HN40.out; have := Hlt.out; unfold maxLen; omega
      have h64 : ((dtxtL T n (d.l.take k)).length + 1) * 16 ≤ 140737488355328 := by rw [HLL.out]; have := HN40.out; have := Hlt.out; omega
      have hbz := HBr.out.size
      have hn40 := HN40.out
      clear hb4 HCL cA cX
      go_wp2_with (at_builtin; refine wpList_pushG rfl _ _ 111 rfl w1.heap.size 9 i0 _ 16 Tryz.underlying111 hi hz0 hz1 hz2 rfl strV (fun _ => rfl) _ (dtxtL T n (d.l.take k)) rfl HOW.out _ _ rfl h63 h64 hbz (dtxt T n true x) rfl ?_; intro v' w5 hown' hgr; have HO5 := Lib.hid hown'; have HB5 := Lib.hid (grow_below HOW.out hgr hbz); clear hown' hgr)
      go_roundw
      case rel => exact ⟨k + 1, v', Hlt.out, by go_num, rfl, by rw [HVT.out]; exact HO5.out, HBr.out.trans HB5.out⟩
      case measure => have := Hlt.out; simp [intOf]; omega
  rw [if_neg hl3] at eq1
  have HEQ := Lib.hid eq1
  have hd3 : ((n.rep : Int) == 3) = false ∨ (((n.rep : Int) == 3) = true ∧ one = true) := by
    by_cases h : n.rep = 3
    · exact .inr ⟨by rw [h]; rfl, by simpa [h] using hl3⟩
    · exact .inl (by simpa using h)
  have hlon : lonely n one d := by
    by_cases h1 : one = true
    · exact .inl h1
    · have h3 : n.rep ≠ 3 := fun h => hl3 (by simp [h]; cases one <;> simp_all)
      have := HR0.out.1; have := HR0.out.2.1
      rcases (show n.rep = 1 ∨ n.rep = 2 by omega) with h | h
      · exact .inr (.inl h)
      · exact .inr (.inr ⟨h, HNO.out⟩)
  have HLON := Lib.hid hlon
  clear eq1 hl3 hlon
  rcases hd3 with d3 | ⟨d3, rfl⟩
  all_goals
    by_cases hk0 : n.kind = 0
    case neg =>
      have dk0 : ((n.kind : Int) != 0) = true := by simpa using hk0
      have eq1 := HEQ.out
      rw [if_pos hk0] at eq1
      have hok : okB n.kind d.v = true := by
        have h := HZ.out
        rw [datE_leaf HLON.out hk0] at h
        split at h
        · split at h
          · assumption
          · omega
        · omega
      subst eq1
      have HV2 := Lib.hid (HVL.out hk0 hok)
      unfold TextRet strV at HV2
      clear hk0 hok HEQ HVL
      go_wp2_with fail
      refine (HV2.out w1).mono ?_; rintro e w3 ⟨rfl, hb3⟩
      have HB3 := Lib.hid (HW.out.trans (hb3.mono HW.out.size))
      clear hb3 cA cB
      go_wp2_with fail
      go_ret
      exact ⟨rfl, HB3.out⟩
    have dk0 : ((n.kind : Int) != 0) = false := by simpa using hk0
    have eq1 := HEQ.out
    rw [if_neg (by simpa using hk0)] at eq1
    have hzg : nf = ns ∧ datEF n.sub d.f = 0 := by
      have h := HZ.out
      rw [datE_group HLON.out hk0, HNF.out, HNS.out] at h
      split at h
      · split at h
        · exact ⟨by assumption, h⟩
        · omega
      · omega
    obtain ⟨rfl, hzf⟩ := hzg
    have HZF := Lib.hid (datEF_zero _ _ hzf)
    have HEQ2 := Lib.hid eq1
    clear HEQ eq1 hk0 hzf
    go_wp2_with fail
    clear cA cB d3
    go_loopw [10, 52] (fun s10 i wr => ∃ (k : Nat) (v10 : Value), k ≤ nf ∧ i = .int .i64 (k : Nat) ∧ v10 = s10 ∧ Hid (wr.ownsRow w1.heap.size 9 1 v10 (dtxtF T (n.sub.take k) (d.f.take k)).length ((dtxtF T (n.sub.take k) (d.f.take k)).map strV)) ∧ Hid (Below w1.heap.size w1 wr)) (fun _ i _ => nf - (intOf i).toNat)
    case atStart => exact ⟨0, _, Nat.zero_le _, rfl, rfl, by rw [List.take_zero, List.take_zero]; show World.ownsRow _ _ _ _ _ (dtxtF T [] []).length ((dtxtF T [] []).map strV); simp only [dtxtF]; exact World.ownsRow_nil _ _ _ _, Below.refl _ _⟩
    case round =>
      obtain ⟨k, v10, hk, rfl, hv10, HOW, HBr⟩ := hrel
      subst hv10
      have RBr := Lib.hid (row_keep HBr.out RB.out)
      by_cases hlt : k < nf
      case neg =>
        obtain rfl : k = nf := Nat.le_antisymm hk (Nat.le_of_not_lt hlt)
        have hq := HOW.out
        rw [List.take_of_length_le (Nat.le_of_eq HNF.out), List.take_of_length_le (Nat.le_of_eq HNS.out)] at hq
        have hjl : (Lib.join (dtxtF T n.sub d.f) [44]).length + 2 = R.length := by rw [← HEQ2.out]; simp
        have HJ := Lib.hid (join_own hq (by rw [dtxtF_len T _ _ (by rw [HNF.out, HNS.out]), HNF.out]; exact HN4.out) (by have := HCAP.out; omega))
        obtain ⟨J, hJ⟩ : ∃ J, Lib.join (dtxtF T n.sub d.f) [44] = J := ⟨_, rfl⟩
        have HEQ4 := HEQ2.out
        rw [hJ] at HEQ4 hjl HJ
        have HEQ3 := Lib.hid HEQ4
        have dk : decide (k < k) = false := by simp
        have hs1 : ¬ 9223372036854775807 < 1 + J.length := by have := HCAP.out; omega
        have hs2 : ¬ 9223372036854775807 < 1 + J.length + 1 := by have := HCAP.out; omega
        unfold strV at HJ
        clear hlt hk hq hjl HEQ4 hJ
        go_wp2_with fail
        refine HJ.out.mono ?_; rintro e w5 ⟨rfl, hb5⟩
        have HB5 := Lib.hid hb5
        clear hb5
        go_wp2_with fail
        go_ret
        refine ⟨?_, HW.out.trans ((HBr.out.mono HW.out.size).trans (HB5.out.mono (Nat.le_trans HW.out.size HBr.out.size)))⟩
        rw [← HEQ3.out]
        exact congrArg (fun s => Ending.returned (Value.string s)) (ba3 123 125 J)
      obtain ⟨x, hx⟩ : ∃ x, d.f[k]? = some x := ⟨_, List.getElem?_eq_getElem (by rw [HNF.out]; exact hlt)⟩
      obtain ⟨y, hy⟩ : ∃ y, n.sub[k]? = some y := ⟨_, List.getElem?_eq_getElem (by rw [HNS.out]; exact hlt)⟩
      have hxm : x ∈ d.f := List.mem_of_getElem? hx
      have hym : y ∈ n.sub := List.mem_of_getElem? hy
      have hbw := HW.out.trans (HBr.out.mono HW.out.size)
      obtain ⟨b1, off1, h17, hPb1, hb1, hat1⟩ := (HLf.out.under hbw).at (by rw [HNF.out]; omega)
      subst h17
      obtain ⟨xu, xt, hcx, hu, ht⟩ := hat1 k x hx
      obtain ⟨b0, off0, h18, hPb0, hb0, hat0⟩ := (HN.out.under hbw).at (by rw [HNS.out]; omega)
      subst h18
      obtain ⟨yu, hcy, hny⟩ := hat0 k y hy
      obtain ⟨xau, xcu, rfl⟩ := hu.form
      obtain ⟨xaf, xcf, rfl⟩ := ht.form
      obtain ⟨yau, ycu, rfl⟩ := hny.form
      have hI := HIF.out x hxm y (.slice yau y.sub.length ycu) (.slice xau x.l.length xcu) (.slice xaf x.f.length xcf) false
      have hvt := dtxtF_take T n.sub d.f k y x hy hx
      have hlen0 : (y.name.data.toList ++ [58] ++ dtxt T y false x).length ≤ 100000000000000 := by
        have h1 := HCAP.out
        have h2 := join_mem [44] (dtxtF_mem T n.sub d.f k y x hy hx)
        rw [← HEQ2.out] at h1
        simp only [List.length_append, List.length_cons, List.length_nil] at h1 h2 ⊢
        omega
      have hnm : y.name.data.toList.length = y.name.size := rfl
      simp only [List.length_append, List.length_cons, List.length_nil, hnm] at hlen0
      have hlen : (dtxt T y false x).length ≤ 100000000000000 := by omega
      have hs1 : ¬ 9223372036854775807 < y.name.size + 1 := by omega
      have hs2 : ¬ 9223372036854775807 < y.name.size + 1 + (dtxt T y false x).length := by omega
      have hll : (dtxtF T (n.sub.take k) (d.f.take k)).length = k := by rw [dtxtF_len T _ _ (by rw [List.length_take, List.length_take, HNF.out, HNS.out]), List.length_take, HNF.out]; omega
      have hn4 := HN4.out
      have h63 : (dtxtF T (n.sub.take k) (d.f.take k)).length + 1 ≤ maxLen := by rw [hll]; unfold maxLen; omega
      have h64 : ((dtxtF T (n.sub.take k) (d.f.take k)).length + 1) * 16 ≤ 140737488355328 := by rw [hll]; omega
      have HVT := Lib.hid hvt; have HLEN := Lib.hid hlen
      unfold DtAt dtA at hcx
      unfold NdAt ndA at hcy
      have HCX := Lib.hid hcx; have HCY := Lib.hid hcy; have HI := Lib.hid hI; have HU := Lib.hid hu; have HT := Lib.hid ht; have HNY := Lib.hid hny; have HX := Lib.hid hx; have HY := Lib.hid hy; have HXM := Lib.hid hxm; have HYM := Lib.hid hym
      have Hlt := Lib.hid hlt; have HBW := Lib.hid hbw; have HPB1 := Lib.hid (show b1 < w.heap.size from hPb1)
      have hin : (k : Int) < (nf : Int) := Int.ofNat_lt.2 hlt
      have dk : decide (k < nf) = true := decide_eq_true hlt
      clear hx hy hxm hym hbw hat0 hat1 hcx hcy hu ht hny hI hlt hk hPb0 hPb1 hb0 hb1 hvt hlen hlen0 hnm hll
      go_upto_region 17 with (refine wpList_load_cells rfl 24 _ rfl b0 (off0 + k * 5) rfl #[.int .i64 y.id, .string y.name, .int .i64 y.rep, .int .i64 y.kind, .slice yau y.sub.length ycu] _ HCY.out Tryz.underlying24 rfl nd_info ?_)
      have hba := (Below.refl wr.heap.size wr).alloc (Nat.le_refl _) (.cells #[.int .i64 y.id, .string y.name, .int .i64 y.rep, .int .i64 y.kind, .slice yau y.sub.length ycu] 24)
      have rY := heap_alloc_new wr (.cells #[.int .i64 y.id, .string y.name, .int .i64 y.rep, .int .i64 y.kind, .slice yau y.sub.length ycu] 24)
      obtain ⟨gx, hgx⟩ : ∃ gx, wr.heap.size = gx := ⟨_, rfl⟩
      have HBA := Lib.hid hba; have RY := Lib.hid rY
      rw [hgx] at RY ⊢
      clear hba rY hgx HCY
      generalize (wr.alloc (.cells #[.int .i64 y.id, .string y.name, .int .i64 y.rep, .int .i64 y.kind, .slice yau y.sub.length ycu] 24)) = w3 at *
      refine AnyE.region (S := fun w' => (∀ j_1, w'.cell? ⟨gx, j_1, none⟩ = (#[.int .i64 y.id, .string y.name, .int .i64 y.rep, .int .i64 y.kind, .slice yau y.sub.length ycu] : Array Value)[j_1]?) ∧ w'.cell? ⟨w.heap.size + 1, 5, none⟩ = some (.slice (some ⟨b1, off1, none⟩) nf cf) ∧ (∀ (j : Nat) (v : Value), (#[.bool x.no, .int .i64 x.v.k, .int .i64 x.v.n, .string x.v.s, .slice xau x.l.length xcu, .slice xaf x.f.length xcf] : Array Value)[j]? = some v → w'.cell? ⟨b1, off1 + k * 6 + j, none⟩ = some v)) (E := []) (by kernel_rfl) ?_
      have hbd := (Below.refl w3.heap.size w3).drew
      have hbx := HBA.out.trans (hbd.mono HBA.out.size)
      have hbw3 := HBW.out.trans (hbx.mono HBW.out.size)
      have hcl := HI.out w3.drew ((HNY.out.under (hbx.mono HBW.out.size)).mono fun b hb _ => Nat.lt_of_lt_of_le hb hbw3.size) (fun z hz => HO.out z (by rw [nodes_eq]; exact List.mem_cons_of_mem _ (nodesL_mem HYM.out hz))) (fun z hz => HR.out z (by rw [nodes_eq]; exact List.mem_cons_of_mem _ (nodesL_mem HYM.out hz))) (fun z hz => HKK.out z (by rw [nodes_eq]; exact List.mem_cons_of_mem _ (nodesL_mem HYM.out hz))) ((HU.out.under (hbx.mono HBW.out.size)).mono fun b hb _ => Nat.lt_of_lt_of_le hb hbw3.size) ((HT.out.under (hbx.mono HBW.out.size)).mono fun b hb _ => Nat.lt_of_lt_of_le hb hbw3.size) (fun z hz => HDf.out z (dtsL_mem HXM.out hz)) (HZF.out k y x HY.out HX.out) (fun z hz => HS4.out z (by rw [nodes_eq]; exact List.mem_cons_of_mem _ (nodesL_mem HYM.out hz))) HLEN.out
      replace RBr := Lib.hid (row_keep hbx RBr.out); replace RY := Lib.hid (row_keep hbd RY.out); replace HOW := Lib.hid (own_blw HOW.out hbx); replace HBr := Lib.hid (HBr.out.trans (hbx.mono HBr.out.size))
      have hS := (⟨rowc RY.out, rowc RBr.out 5, fun j v hj => (hbx.cell (p := ⟨b1, off1 + k * 6 + j, none⟩) (block_lt_of_cell (HCX.out j v hj))).trans (HCX.out j v hj)⟩ : (fun w' => (∀ j_1, w'.cell? ⟨gx, j_1, none⟩ = (#[.int .i64 y.id, .string y.name, .int .i64 y.rep, .int .i64 y.kind, .slice yau y.sub.length ycu] : Array Value)[j_1]?) ∧ w'.cell? ⟨w.heap.size + 1, 5, none⟩ = some (.slice (some ⟨b1, off1, none⟩) nf cf) ∧ (∀ (j : Nat) (v : Value), (#[.bool x.no, .int .i64 x.v.k, .int .i64 x.v.n, .string x.v.s, .slice xau x.l.length xcu, .slice xaf x.f.length xcf] : Array Value)[j]? = some v → w'.cell? ⟨b1, off1 + k * 6 + j, none⟩ = some v)) w3.drew)
      unfold TextRet strV at hcl
      have HCL := Lib.hid hcl
      replace HCX := Lib.hid hS.2.2
      clear hbd hbx hbw3 hcl
      generalize w3.drew = wd at *
      refine AnyE.take (i := 0) (v := ?_) rfl (by kernel_rfl) (by kernel_rfl) (by kernel_rfl) (by kernel_rfl) (by kernel_rfl) (fun _ _ _ h => h) (Or.inl ⟨by rfl, ?_⟩) hS ?_
      rotate_left
      focus (intro wq hSq; obtain ⟨hS1, hS2, hS3⟩ := hSq; go_simp; with_reducible rfl)
      try simp only [Act.put, List.getElem_toArray, List.getElem_cons_succ, List.getElem_cons_zero, List.setIfInBounds_toArray, List.set_cons_zero, List.set_cons_succ]
      refine AnyE.take (i := 1) (v := ?_) rfl (by kernel_rfl) (by kernel_rfl) (by kernel_rfl) (by kernel_rfl) (by kernel_rfl) (fun _ _ _ h => h) (Or.inl ⟨by rfl, ?_⟩) hS ?_
      rotate_left
      focus (intro wq hSq; obtain ⟨hS1, hS2, hS3⟩ := hSq; go_simp; with_reducible rfl)
      try simp only [Act.put, List.getElem_toArray, List.getElem_cons_succ, List.getElem_cons_zero, List.setIfInBounds_toArray, List.set_cons_zero, List.set_cons_succ]
      refine AnyE.take (i := 2) (v := ?_) rfl (by kernel_rfl) (by kernel_rfl) (by kernel_rfl) (by kernel_rfl) (by kernel_rfl) (fun _ _ _ h => h) (Or.inl ⟨by rfl, ?_⟩) hS ?_
      rotate_left
      focus (intro wq hSq; obtain ⟨hS1, hS2, hS3⟩ := hSq; go_simp; with_reducible rfl)
      try simp only [Act.put, List.getElem_toArray, List.getElem_cons_succ, List.getElem_cons_zero, List.setIfInBounds_toArray, List.set_cons_zero, List.set_cons_succ]
      refine AnyE.take (i := 3) (v := ?_) rfl (by kernel_rfl) (by kernel_rfl) (by kernel_rfl) (by kernel_rfl) (by kernel_rfl) (fun _ _ _ h => h) (Or.inl ⟨by rfl, ?_⟩) hS ?_
      rotate_left
      focus (intro wq hSq; obtain ⟨hS1, hS2, hS3⟩ := hSq; go_simp; with_reducible rfl)
      try simp only [Act.put, List.getElem_toArray, List.getElem_cons_succ, List.getElem_cons_zero, List.setIfInBounds_toArray, List.set_cons_zero, List.set_cons_succ]
      refine AnyE.take (i := 4) (v := ?_) rfl (by kernel_rfl) (by kernel_rfl) (by kernel_rfl) (by kernel_rfl) (by kernel_rfl) (fun _ _ _ h => h) (Or.inl ⟨by rfl, ?_⟩) hS ?_
      rotate_left
      focus (intro wq hSq; obtain ⟨hS1, hS2, hS3⟩ := hSq; go_simp; with_reducible rfl)
      try simp only [Act.put, List.getElem_toArray, List.getElem_cons_succ, List.getElem_cons_zero, List.setIfInBounds_toArray, List.set_cons_zero, List.set_cons_succ]
      refine AnyE.take (i := 5) (v := ?_) rfl (by kernel_rfl) (by kernel_rfl) (by kernel_rfl) (by kernel_rfl) (by kernel_rfl) (fun _ _ _ h => h) (Or.inl ⟨by rfl, ?_⟩) hS ?_
      rotate_left
      focus (intro wq hSq; obtain ⟨hS1, hS2, hS3⟩ := hSq; go_simp; with_reducible rfl)
      try simp only [Act.put, List.getElem_toArray, List.getElem_cons_succ, List.getElem_cons_zero, List.setIfInBounds_toArray, List.set_cons_zero, List.set_cons_succ]
      refine AnyE.take (i := 6) (v := ?_) rfl (by kernel_rfl) (by kernel_rfl) (by kernel_rfl) (by kernel_rfl) (by kernel_rfl) (fun _ _ _ h => h) (Or.inl ⟨by rfl, ?_⟩) hS ?_
      rotate_left
      focus (intro wq hSq; obtain ⟨hS1, hS2, hS3⟩ := hSq; go_simp; with_reducible rfl)
      try simp only [Act.put, List.getElem_toArray, List.getElem_cons_succ, List.getElem_cons_zero, List.setIfInBounds_toArray, List.set_cons_zero, List.set_cons_succ]
      refine AnyE.take (i := 7) (v := ?_) rfl (by kernel_rfl) (by kernel_rfl) (by kernel_rfl) (by kernel_rfl) (by kernel_rfl) (fun _ _ _ h => h) (Or.inl ⟨by rfl, ?_⟩) hS ?_
      rotate_left
      focus (intro wq hSq; obtain ⟨hS1, hS2, hS3⟩ := hSq; go_simp; with_reducible rfl)
      try simp only [Act.put, List.getElem_toArray, List.getElem_cons_succ, List.getElem_cons_zero, List.setIfInBounds_toArray, List.set_cons_zero, List.set_cons_succ]
      refine AnyE.take (i := 8) (v := ?_) rfl (by kernel_rfl) (by kernel_rfl) (by kernel_rfl) (by kernel_rfl) (by kernel_rfl) (fun _ _ _ h => h) (Or.inl ⟨by rfl, ?_⟩) hS ?_
      rotate_left
      focus (intro wq hSq; obtain ⟨hS1, hS2, hS3⟩ := hSq; go_simp; with_reducible rfl)
      try simp only [Act.put, List.getElem_toArray, List.getElem_cons_succ, List.getElem_cons_zero, List.setIfInBounds_toArray, List.set_cons_zero, List.set_cons_succ]
      refine AnyE.take (i := 9) (v := .agg #[.bool x.no, .int .i64 x.v.k, .int .i64 x.v.n, .string x.v.s, .slice xau x.l.length xcu, .slice xaf x.f.length xcf]) rfl (by kernel_rfl) (by kernel_rfl) (by kernel_rfl) (by kernel_rfl) (by kernel_rfl) (fun _ _ _ h => h) (yields_load 29 _ rfl rfl b1 (off1 + k * 6) rfl #[.bool x.no, .int .i64 x.v.k, .int .i64 x.v.n, .string x.v.s, .slice xau x.l.length xcu, .slice xaf x.f.length xcf] _ (fun w h => h.2.2) Tryz.underlying29 rfl (by kernel_rfl)) hS ?_
      try simp only [Act.put, List.getElem_toArray, List.getElem_cons_succ, List.getElem_cons_zero, List.setIfInBounds_toArray, List.set_cons_zero, List.set_cons_succ]
      refine AnyE.one (i := 10) (by kernel_rfl) rfl rfl ?_
      intro K hK
      simp only [List.getElem_toArray, List.getElem_cons_succ, List.getElem_cons_zero]
      go_simp
      refine HCL.out.mono ?_; rintro e w4 ⟨rfl, hb4⟩
      replace RY := Lib.hid (row_keep hb4 RY.out); replace RBr := Lib.hid (row_keep hb4 RBr.out)
      replace HBr := Lib.hid (HBr.out.trans (hb4.mono HBr.out.size)); replace HOW := Lib.hid (own_blw HOW.out hb4)
      have hS9 := (⟨rowc RY.out, rowc RBr.out 5, fun j v hj => (hb4.cell (p := ⟨b1, off1 + k * 6 + j, none⟩) (block_lt_of_cell (HCX.out j v hj))).trans (HCX.out j v hj)⟩ : (fun w' => (∀ j_1, w'.cell? ⟨gx, j_1, none⟩ = (#[.int .i64 y.id, .string y.name, .int .i64 y.rep, .int .i64 y.kind, .slice yau y.sub.length ycu] : Array Value)[j_1]?) ∧ w'.cell? ⟨w.heap.size + 1, 5, none⟩ = some (.slice (some ⟨b1, off1, none⟩) nf cf) ∧ (∀ (j : Nat) (v : Value), (#[.bool x.no, .int .i64 x.v.k, .int .i64 x.v.n, .string x.v.s, .slice xau x.l.length xcu, .slice xaf x.f.length xcf] : Array Value)[j]? = some v → w'.cell? ⟨b1, off1 + k * 6 + j, none⟩ = some v)) w4)
      refine hK _ _ (fun _ => hS9) ?_
      clear hK K hS
      have hS := hS9
      clear hS9
      replace HCX := Lib.hid hS.2.2
      clear hb4 HCL
      try simp only [Act.put, List.getElem_toArray, List.getElem_cons_succ, List.getElem_cons_zero, List.setIfInBounds_toArray, List.set_cons_zero, List.set_cons_succ]
      refine AnyE.take (i := 11) (v := ?_) rfl (by kernel_rfl) (by kernel_rfl) (by kernel_rfl) (by kernel_rfl) (by kernel_rfl) (fun _ _ _ h => h) (Or.inl ⟨by rfl, ?_⟩) hS ?_
      rotate_left
      focus (intro wq hSq; obtain ⟨hS1, hS2, hS3⟩ := hSq; go_simp; with_reducible rfl)
      try simp only [Act.put, List.getElem_toArray, List.getElem_cons_succ, List.getElem_cons_zero, List.setIfInBounds_toArray, List.set_cons_zero, List.set_cons_succ]
      refine AnyE.one (i := 12) (by kernel_rfl) rfl rfl ?_
      intro K hK
      simp only [List.getElem_toArray, List.getElem_cons_succ, List.getElem_cons_zero]
      go_simp
      have hbe := (Below.refl w4.heap.size w4).alloc (Nat.le_refl _) (.cells #[.string (y.name ++ ⟨#[58]⟩ ++ ⟨(dtxt T y false x).toArray⟩)] 9)
      have rE := heap_alloc_new w4 (.cells #[.string (y.name ++ ⟨#[58]⟩ ++ ⟨(dtxt T y false x).toArray⟩)] 9)
      replace RY := Lib.hid (row_keep hbe RY.out); replace RBr := Lib.hid (row_keep hbe RBr.out)
      replace HBr := Lib.hid (HBr.out.trans (hbe.mono HBr.out.size)); replace HOW := Lib.hid (own_blw HOW.out hbe); have RE := Lib.hid rE
      have hS9 := (⟨rowc RY.out, rowc RBr.out 5, fun j v hj => (hbe.cell (p := ⟨b1, off1 + k * 6 + j, none⟩) (block_lt_of_cell (HCX.out j v hj))).trans (HCX.out j v hj)⟩ : (fun w' => (∀ j_1, w'.cell? ⟨gx, j_1, none⟩ = (#[.int .i64 y.id, .string y.name, .int .i64 y.rep, .int .i64 y.kind, .slice yau y.sub.length ycu] : Array Value)[j_1]?) ∧ w'.cell? ⟨w.heap.size + 1, 5, none⟩ = some (.slice (some ⟨b1, off1, none⟩) nf cf) ∧ (∀ (j : Nat) (v : Value), (#[.bool x.no, .int .i64 x.v.k, .int .i64 x.v.n, .string x.v.s, .slice xau x.l.length xcu, .slice xaf x.f.length xcf] : Array Value)[j]? = some v → w'.cell? ⟨b1, off1 + k * 6 + j, none⟩ = some v)) (w4.alloc (.cells #[.string (y.name ++ ⟨#[58]⟩ ++ ⟨(dtxt T y false x).toArray⟩)] 9)))
      refine hK _ _ (fun _ => hS9) ?_
      clear hK K hS rE hbe
      have hS := hS9; clear hS9
      replace HCX := Lib.hid hS.2.2
      try simp only [Act.put, List.getElem_toArray, List.getElem_cons_succ, List.getElem_cons_zero, List.setIfInBounds_toArray, List.set_cons_zero, List.set_cons_succ]
      generalize (w4.alloc (.cells #[.string (y.name ++ ⟨#[58]⟩ ++ ⟨(dtxt T y false x).toArray⟩)] 9)) = we at *
      generalize w4.heap.size = ge at *
      refine AnyE.one (i := 13) (by kernel_rfl) rfl rfl ?_
      intro K hK
      simp only [List.getElem_toArray, List.getElem_cons_succ, List.getElem_cons_zero]
      refine wp_pushRow (.tmp 57) (.tmp 69) 111 rfl w1.heap.size 9 i0 _ 1 16 Tryz.underlying111 hi hz0 hz1 hz2 rfl (by decide) (fun s => [strV s]) (fun _ => rfl) (fun y u hu => by rw [List.mem_singleton.1 hu]; rfl) v10 (dtxtF T (n.sub.take k) (d.f.take k)) ?_ (by rw [map_flat]; exact HOW.out) ge ?_ (y.name.data.toList ++ [58] ++ dtxt T y false x) _ _ RE.out (by show [Value.string _] = [Value.string _]; rw [ba_name]) h63 h64 HBr.out.size ?_
      focus (go_simp)
      focus (go_simp)
      intro v5 w5 ho5 hg5 _
      have hbg := (Below.refl w1.heap.size we).grown hg5 HBr.out.size (fun q hq => (HOW.out.lt q hq).1)
      rw [map_flat, ← HVT.out] at ho5
      have HO5 := Lib.hid ho5; replace HBr := Lib.hid (HBr.out.trans hbg)
      have hza := HZ1.out
      replace RBr := Lib.hid (row_below hbg RBr.out (by omega))
      have RY5 := Lib.hid (grown_row0' HOW.out hg5 RY.out (by decide))
      have hS9 := (⟨rowc RY5.out, rowc RBr.out 5, fun j v hj => (hbg.cell (p := ⟨b1, off1 + k * 6 + j, none⟩) (by have := HPB1.out; show b1 < _; omega)).trans (HCX.out j v hj)⟩ : (fun w' => (∀ j_1, w'.cell? ⟨gx, j_1, none⟩ = (#[.int .i64 y.id, .string y.name, .int .i64 y.rep, .int .i64 y.kind, .slice yau y.sub.length ycu] : Array Value)[j_1]?) ∧ w'.cell? ⟨w.heap.size + 1, 5, none⟩ = some (.slice (some ⟨b1, off1, none⟩) nf cf) ∧ (∀ (j : Nat) (v : Value), (#[.bool x.no, .int .i64 x.v.k, .int .i64 x.v.n, .string x.v.s, .slice xau x.l.length xcu, .slice xaf x.f.length xcf] : Array Value)[j]? = some v → w'.cell? ⟨b1, off1 + k * 6 + j, none⟩ = some v)) w5)
      refine hK _ _ (fun _ => hS9) ?_
      clear hK K hS ho5 hg5 hbg hza
      have hS := hS9; clear hS9
      try simp only [Act.put, List.getElem_toArray, List.getElem_cons_succ, List.getElem_cons_zero, List.setIfInBounds_toArray, List.set_cons_zero, List.set_cons_succ]
      refine AnyE.take (i := 14) (v := ?_) rfl (by kernel_rfl) (by kernel_rfl) (by kernel_rfl) (by kernel_rfl) (by kernel_rfl) (fun _ _ _ h => h) (Or.inl ⟨by rfl, ?_⟩) hS ?_
      rotate_left
      focus (intro wq hSq; obtain ⟨hS1, hS2, hS3⟩ := hSq; go_simp; with_reducible rfl)
      try simp only [Act.put, List.getElem_toArray, List.getElem_cons_succ, List.getElem_cons_zero, List.setIfInBounds_toArray, List.set_cons_zero, List.set_cons_succ]
      refine AnyE.done (by kernel_rfl) ?_ _
      clear hS
      go_wp2_with fail
      go_roundw
      case rel => exact ⟨k + 1, v5, Hlt.out, by go_num, rfl, HO5.out, HBr.out⟩
      case measure => have := Hlt.out; simp [intOf]; omega
end Go.Proofs.YthfljcpfcnddhaaGreatDoor
