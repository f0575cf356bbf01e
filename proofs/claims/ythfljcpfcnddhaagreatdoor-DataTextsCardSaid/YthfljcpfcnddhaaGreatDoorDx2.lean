/- data.Text over data.value's contract; data.value at a truth value; the closed fact bit. -/
import Derived.Test.YthfljcpfcnddhaaGreatDoorDx1
import Derived.Test.YthfljcpfcnddhaaGreatDoorDc4
namespace Go.Proofs.YthfljcpfcnddhaaGreatDoor
set_option linter.unusedVariables false
set_option linter.unusedSimpArgs false
open Go Go.RowKit Go.ChangeShapes

theorem subL_le : ∀ (l : List Nd), l.length ≤ sizeL l
  | [] => by simp
  | a :: r => by
    have := subL_le r
    simp only [sizeL, List.length_cons]
    have h : 1 ≤ size a := by rw [size_eq]; omega
    omega
theorem size_memL {x : Nd} : ∀ {l : List Nd}, x ∈ l → size x ≤ sizeL l
  | [], h => by cases h
  | a :: r, h => by
    simp only [sizeL]
    rcases List.mem_cons.1 h with rfl | h
    · omega
    · have := size_memL h; omega
theorem sub_le : ∀ (n : Nd), ∀ x ∈ nodes n, x.sub.length ≤ size n := by
  apply Nd.ind
  intro n IH x hx
  rw [nodes_eq] at hx
  rw [size_eq]
  rcases List.mem_cons.1 hx with rfl | hx
  · have := subL_le x.sub; omega
  · have hm : ∀ (l : List Nd), x ∈ nodesL l → ∃ y ∈ l, x ∈ nodes y := by
      intro l
      induction l with
      | nil => intro h; simp [nodesL] at h
      | cons a r ih =>
        intro h
        simp only [nodesL] at h
        rcases List.mem_append.1 h with h | h
        · exact ⟨a, List.mem_cons_self .., h⟩
        · obtain ⟨y, hy, h2⟩ := ih h
          exact ⟨y, List.mem_cons_of_mem _ hy, h2⟩
    obtain ⟨y, hy, hxy⟩ := hm n.sub hx
    have h1 := IH y hy x hxy
    have h2 := size_memL hy
    omega
theorem valid_sub {n : Nd} (h : validE n = 0) : ∀ x ∈ nodes n, x.sub.length ≤ 40 := by
  have hf : goodB n = true := by
    unfold validE at h
    repeat' split at h
    all_goals first | assumption | omega
  unfold goodB at hf
  rw [decide_eq_true_iff] at hf
  intro x hx
  have := sub_le n x hx
  omega
def TextPRet (T : Val → List UInt8) (n : Nd) (d : Dt) (adr : Nat → Addr) (w : World) (e : Ending) (w' : World) : Prop := e = .returned (.tuple #[strV (if recE n d = 0 then dtxt T n false d else []), eV adr (recE n d)]) ∧ Below w.heap.size w w'

set_option maxRecDepth 100000 in
set_option maxHeartbeats 8000000 in
theorem textP_any (T : Val → List UInt8) (K : Int → Prop) (HT : ∀ (k : Int) (x : Val) (w1 : World), K k → okB k x = true → x.Ok → Calls Tryz.prog 61 #[.agg (valA x)] w1 (TextRet (T x) w1))
    (adr : Nat → Addr) (n : Nd) (d : Dt) (u ul uf : Value) (w : World) (hE : ErrsAt w adr [2, 3, 4, 5]) (hN : IsNds (· < w.heap.size) w u n.sub) (hO : ∀ x ∈ nodes n, x.Ok1) (hK : ∀ x ∈ nodes n, x.kind ≠ 0 → K x.kind)
    (hl : IsDts (· < w.heap.size) w ul d.l) (hf : IsDts (· < w.heap.size) w uf d.f) (hD : ∀ x ∈ dts d, x.Ok1) (hcap : recE n d = 0 → (dtxt T n false d).length ≤ 100000000000000) :
    Calls Tryz.prog 13 #[.agg (ndA n u), .agg (dtA d ul uf)] w (TextPRet T n d adr w) := by
  have HV := Lib.hid (fun (w1 : World) (h : Below w.heap.size w w1) => check_any adr n d u ul uf w1 (hE.below h) ((hN.under h).mono fun b hb _ => Nat.lt_of_lt_of_le hb h.size) hO ((hl.under h).mono fun b hb _ => Nat.lt_of_lt_of_le hb h.size) ((hf.under h).mono fun b hb _ => Nat.lt_of_lt_of_le hb h.size) hD)
  have hrz : recE n d = 0 → validE n = 0 ∧ datE n false d = 0 := by
    intro h
    unfold recE at h
    split at h
    · exact ⟨by assumption, h⟩
    · omega
  have HRt := Lib.hid (fun (h0 : recE n d = 0) (w1 : World) (h : Below w.heap.size w w1) => text_any T K HT d n u ul uf false w1 ((hN.under h).mono fun b hb _ => Nat.lt_of_lt_of_le hb h.size) hO (valid_okRep (hrz h0).1) hK
    ((hl.under h).mono fun b hb _ => Nat.lt_of_lt_of_le hb h.size) ((hf.under h).mono fun b hb _ => Nat.lt_of_lt_of_le hb h.size) hD (hrz h0).2 (fun x hx => Nat.le_trans (valid_sub (hrz h0).1 x hx) (by decide)) (hcap h0))
  obtain ⟨au, cu, rfl⟩ := hN.form
  obtain ⟨al, cl, rfl⟩ := hl.form
  obtain ⟨af, cf, rfl⟩ := hf.form
  unfold TextPRet
  obtain ⟨V, hV⟩ : ∃ V, recE n d = V := ⟨_, rfl⟩
  obtain ⟨D, hD⟩ : ∃ D, dtxt T n false d = D := ⟨_, rfl⟩
  rw [hV] at HV HRt
  rw [hD] at HRt
  rw [hV, hD]
  obtain ⟨R, hR⟩ : ∃ R, (if V = 0 then D else []) = R := ⟨_, rfl⟩
  rw [hR]
  have HR := Lib.hid hR
  obtain ⟨ns, hns⟩ : ∃ ns, n.sub.length = ns := ⟨_, rfl⟩
  obtain ⟨nl, hnl⟩ : ∃ nl, d.l.length = nl := ⟨_, rfl⟩
  obtain ⟨nf, hnf⟩ : ∃ nf, d.f.length = nf := ⟨_, rfl⟩
  rw [hns, hnl, hnf] at HV HRt
  rw [hns, hnl, hnf]
  unfold ndA dtA at *
  clear hE hN hO hK hl hf hV hD hns hnl hnf hcap hrz hR HT
  go_enter Tryz.func13, Tryz.ntmps13
  go_upto_region 1 with fail
  have hb0 := rows2 (w := w) (A := .cells #[.int .i64 n.id, .string n.name, .int .i64 n.rep, .int .i64 n.kind, .slice au ns cu] 24) (B := .cells #[.bool d.no, .int .i64 d.v.k, .int .i64 d.v.n, .string d.v.s, .slice al nl cl, .slice af nf cf] 29) (Below.refl _ _)
  generalize ((w.alloc (.cells #[.int .i64 n.id, .string n.name, .int .i64 n.rep, .int .i64 n.kind, .slice au ns cu] 24)).alloc (.cells #[.bool d.no, .int .i64 d.v.k, .int .i64 d.v.n, .string d.v.s, .slice al nl cl, .slice af nf cf] 29)) = w1 at *
  obtain ⟨rA, rB, hbw, -⟩ := hb0
  have HW := Lib.hid hbw; have RA := Lib.hid rA; have RB := Lib.hid rB
  clear rA rB hbw
  have cA := rowc RA.out; have cB := rowc RB.out
  go_wp2_with fail
  refine (HV.out w1 HW.out).mono ?_; rintro e w2 ⟨rfl, hb2⟩
  replace RA := Lib.hid (row_keep hb2 RA.out); replace RB := Lib.hid (row_keep hb2 RB.out); replace HW := Lib.hid (HW.out.trans (hb2.mono HW.out.size))
  clear hb2 cA cB
  cases V with
  | succ q =>
    obtain rfl : [] = R := by have := HR.out; rwa [if_neg (by omega)] at this
    unfold eV
    go_wp2_with fail
    go_ret2
    exact ⟨rfl, HW.out⟩
  | zero =>
    obtain rfl : D = R := by have := HR.out; rwa [if_pos rfl] at this
    have HRt2 := Lib.hid (HRt.out rfl)
    clear HRt
    unfold TextRet strV at HRt2
    unfold eV
    have cA := rowc RA.out; have cB := rowc RB.out
    go_wp2_with fail
    refine (HRt2.out w2 HW.out).mono ?_; rintro e w3 ⟨rfl, hb3⟩
    replace HW := Lib.hid (HW.out.trans (hb3.mono HW.out.size))
    clear hb3 cA cB
    go_wp2_with fail
    go_ret2
    exact ⟨rfl, HW.out⟩

def boolT (x : Val) : List UInt8 := Lib.formatBool (decide (x.n = 1))
set_option maxRecDepth 100000 in
theorem value_bool (x : Val) (w : World) (hk : x.k = 1) : Calls Tryz.prog 61 #[.agg (valA x)] w (TextRet (boolT x) w) := by
  obtain ⟨b, hb⟩ : ∃ b, decide (x.n = 1) = b := ⟨_, rfl⟩
  have HF := Lib.hid (fun w1 => Tryz.strconv_FormatBool b w1)
  unfold boolT TextRet strV
  rw [hb]
  have d1 : ((x.n : Int) == 1) = b := by
    rw [← hb]
    by_cases h : x.n = 1
    · rw [h]; rfl
    · rw [decide_eq_false h]; simpa using h
  have dk : ((x.k : Int) == 1) = true := by rw [hk]; rfl
  have hw := (Below.refl w.heap.size w).alloc (Nat.le_refl _) (.cells (valA x) 26)
  have HW := Lib.hid hw
  unfold valA at HW
  unfold valA
  clear hw hb hk
  go_enter Tryz.func61, Tryz.ntmps61
  go_wp2_with fail
  refine (HF.out _).mono ?_; rintro e w2 ⟨rfl, rfl⟩
  go_wp2_with fail
  go_ret
  exact ⟨rfl, HW.out⟩

def bitS : Nd := .mk 1 ⟨#[97]⟩ 1 1 []
def bitN : Nd := .mk 0 rootName 1 0 [bitS]
def bitX : Dt := .mk false ⟨1, 1, ⟨#[]⟩⟩ [] []
def bitD : Dt := .mk false ⟨0, 0, ⟨#[]⟩⟩ [] [bitX]
theorem bit_rec : recE bitN bitD = 0 := by decide +kernel
theorem bit_txt : dtxt boolT bitN false bitD = [123, 97, 58, 116, 114, 117, 101, 125] := by decide +kernel
theorem bit_nodes {x : Nd} (hx : x ∈ nodes bitN) : x = bitN ∨ x = bitS := by
  rw [nodes_eq] at hx
  simp [bitN, bitS, Nd.sub, nodesL, nodes] at hx
  exact hx
theorem bit_ok : ∀ x ∈ nodes bitN, x.Ok1 := by
  intro x hx
  rcases bit_nodes hx with rfl | rfl
  · exact ⟨by decide, by decide, by decide, by decide, by decide, by decide, by decide, by decide⟩
  · exact ⟨by decide, by decide, by decide, by decide, by decide, by decide, by decide, by decide⟩
theorem bit_dts : ∀ x ∈ dts bitD, x.Ok1 := by
  intro x hx
  have h : x = bitD ∨ x = bitX := by
    rw [dts_eq] at hx
    simp [bitD, bitX, Dt.l, Dt.f, dtsL, dts] at hx
    exact hx
  rcases h with rfl | rfl
  · exact ⟨⟨by decide, by decide, by decide, by decide, by decide⟩, by decide, by decide⟩
  · exact ⟨⟨by decide, by decide, by decide, by decide, by decide⟩, by decide, by decide⟩

set_option maxRecDepth 100000 in
set_option maxHeartbeats 8000000 in
theorem bit_any (w : World) (adr : Nat → Addr) (hE : ErrsAt w adr [2, 3, 4, 5]) : Calls Tryz.prog 9 #[] w fun e w' => e = .returned (.bool true) ∧ Below w.heap.size w w' := by
  have HE := Lib.hid hE
  clear hE
  go_enter Tryz.func9, Tryz.ntmps9
  go_upto_region 2 with fail
  have hb0 := rows2 (w := w) (A := .cells #[.int .i64 1, .string ⟨#[97]⟩, .int .i64 1, .int .i64 1, .slice none 0 0] 24) (B := .cells #[.int .i64 0, .string ⟨#[114, 111, 111, 116]⟩, .int .i64 1, .int .i64 0, .slice (some ⟨w.heap.size, 0, none⟩) 1 1] 24) (Below.refl _ _)
  generalize ((w.alloc (.cells #[.int .i64 1, .string ⟨#[97]⟩, .int .i64 1, .int .i64 1, .slice none 0 0] 24)).alloc (.cells #[.int .i64 0, .string ⟨#[114, 111, 111, 116]⟩, .int .i64 1, .int .i64 0, .slice (some ⟨w.heap.size, 0, none⟩) 1 1] 24)) = w1 at *
  obtain ⟨rA, rB, hbw, hz⟩ := hb0
  have hba := (Below.refl w1.heap.size w1).alloc (Nat.le_refl _) (.cells #[.bool false, .int .i64 1, .int .i64 1, .string ⟨#[]⟩, .slice none 0 0, .slice none 0 0] 29)
  have rX := heap_alloc_new w1 (.cells #[.bool false, .int .i64 1, .int .i64 1, .string ⟨#[]⟩, .slice none 0 0, .slice none 0 0] 29)
  have rA2 := row_keep hba rA
  have hsx := row_lt rX
  have hnd : IsNds (· < (w1.alloc (.cells #[.bool false, .int .i64 1, .int .i64 1, .string ⟨#[]⟩, .slice none 0 0, .slice none 0 0] 29)).heap.size) (w1.alloc (.cells #[.bool false, .int .i64 1, .int .i64 1, .string ⟨#[]⟩, .slice none 0 0, .slice none 0 0] 29)) (.slice (some ⟨w.heap.size, 0, none⟩) 1 1) bitN.sub := by
    refine .row w.heap.size 0 1 [bitS] (fun _ => .slice none 0 0) (by show w.heap.size < _; omega) (by omega) (fun j x hj => ?_) (fun j x hj => ?_)
    · match j, hj with
      | 0, hj =>
        obtain rfl : bitS = x := by simpa using hj
        intro k u hk
        simp only [Nat.zero_mul, Nat.zero_add]
        rw [rowc rA2 k]; exact hk
      | j + 1, hj => simp at hj
    · match j, hj with
      | 0, hj =>
        obtain rfl : bitS = x := by simpa using hj
        exact .nil _ _
      | j + 1, hj => simp at hj
  have hdt : IsDts (· < (w1.alloc (.cells #[.bool false, .int .i64 1, .int .i64 1, .string ⟨#[]⟩, .slice none 0 0, .slice none 0 0] 29)).heap.size) (w1.alloc (.cells #[.bool false, .int .i64 1, .int .i64 1, .string ⟨#[]⟩, .slice none 0 0, .slice none 0 0] 29)) (.slice (some ⟨w1.heap.size, 0, none⟩) 1 1) bitD.f := by
    refine .row w1.heap.size 0 1 [bitX] (fun _ => .slice none 0 0) (fun _ => .slice none 0 0) (by show w1.heap.size < _; omega) (by omega) (fun j x hj => ?_) (fun j x hj => ?_) (fun j x hj => ?_)
    · match j, hj with
      | 0, hj =>
        obtain rfl : bitX = x := by simpa using hj
        intro k u hk
        simp only [Nat.zero_mul, Nat.zero_add]
        rw [rowc rX k]; exact hk
      | j + 1, hj => simp at hj
    · match j, hj with
      | 0, hj =>
        obtain rfl : bitX = x := by simpa using hj
        exact .nil _ _
      | j + 1, hj => simp at hj
    · match j, hj with
      | 0, hj =>
        obtain rfl : bitX = x := by simpa using hj
        exact .nil _ _
      | j + 1, hj => simp at hj
  have hT := textP_any boolT (fun k => k = 1) (fun k x w2 hk ho _ => value_bool x w2 (by have := ((okB_iff k x).1 ho).k; omega)) adr bitN bitD (.slice (some ⟨w.heap.size, 0, none⟩) 1 1) (.slice none 0 0) (.slice (some ⟨w1.heap.size, 0, none⟩) 1 1) _ (HE.out.below (hbw.trans (hba.mono hbw.size))) hnd bit_ok (fun x hx hk => by
    rcases bit_nodes hx with rfl | rfl
    · exact absurd rfl hk
    · rfl) (.nil _ _) hdt bit_dts (fun _ => by rw [bit_txt]; decide)
  unfold TextPRet at hT
  rw [bit_rec, if_pos rfl, bit_txt] at hT
  unfold ndA dtA eV strV bitN bitD Nd.id Nd.name Nd.rep Nd.kind Dt.no Dt.v rootName at hT
  simp only at hT
  have HT := Lib.hid hT; have HW := Lib.hid (hbw.trans (hba.mono hbw.size))
  have cB := rowc rB
  clear hT hnd hdt rA rA2 rB rX hsx hba hbw hz
  go_wp2_with fail
  refine HT.out.mono ?_; rintro e w3 ⟨rfl, hb3⟩
  have HB3 := Lib.hid (HW.out.trans (hb3.mono HW.out.size))
  clear hb3 cB HT
  go_wp2_with fail
  go_ret
  exact ⟨rfl, HB3.out⟩
end Go.Proofs.YthfljcpfcnddhaaGreatDoor
