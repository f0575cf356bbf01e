/- The walks of the document's FindOf and HasInt. -/
import Derived.Test.YthfljcpfcnddhaaGreatDoorTv2
namespace Go.Proofs.YthfljcpfcnddhaaGreatDoor
set_option linter.unusedVariables false
set_option linter.unusedSimpArgs false
open Go Go.RowKit Go.ChangeShapes

set_option maxRecDepth 100000 in
set_option maxHeartbeats 4000000 in
theorem hasInt_any (v : Value) (l : List Int) (x : Int) (w : World) (hI : IsInts w v l) (hm : l.length ≤ 2199023255552) :
    Calls Tryz.prog 79 #[v, .int .i64 x] w fun e w' => e = .returned (.bool (decide (x ∈ l))) ∧ w = w' := by
  obtain ⟨ad, cp, rfl⟩ := hI.form
  obtain ⟨R, hR⟩ : ∃ R, decide (x ∈ l) = R := ⟨_, rfl⟩
  rw [hR]
  obtain ⟨n, hn⟩ : ∃ n, l.length = n := ⟨_, rfl⟩
  rw [hn] at hI hm ⊢
  have HL := Lib.hid hn; have HRr := Lib.hid hR; have HI := Lib.hid hI
  clear hn hR hI
  go_enter Tryz.func79, Tryz.ntmps79
  go_wp2_with fail
  go_loop [5] (fun i => ∃ k : Nat, k ≤ n ∧ i = .int .i64 k ∧ Hid (∀ (q : Nat) y, q < k → l[q]? = some y → y ≠ x)) (fun i => n - (intOf i).toNat)
  case atStart => exact ⟨0, Nat.zero_le _, rfl, fun q y h => absurd h (Nat.not_lt_zero _)⟩
  case round =>
    obtain ⟨k, hk, rfl, HD⟩ := hrel
    by_cases hlt : k < n
    · have hkl : k < l.length := by rw [HL.out]; exact hlt
      have hg := List.getElem?_eq_getElem hkl
      obtain ⟨b, off, rfl, -, hb, hc⟩ := HI.out.at (by omega)
      have c1 := hc k _ hg
      have hin : (k : Int) < (n : Int) := by omega
      by_cases hx : l[k] = x
      · obtain rfl : true = R := by rw [← HRr.out, decide_eq_true]; rw [← hx]; exact List.getElem_mem hkl
        have hxe : ((l[k] : Int) == x) = true := by simpa using hx
        generalize l[k] = y at *
        clear hc hg hkl hx HRr
        go_wp2_with fail
        go_ret
        exact ⟨rfl, rfl⟩
      · have HD2 := Lib.hid (show ∀ (q : Nat) y, q < k + 1 → l[q]? = some y → y ≠ x from fun q y hq hy => by
          rcases Nat.lt_succ_iff_lt_or_eq.1 hq with h2 | h2
          · exact HD.out q y h2 hy
          · subst h2; rw [hg] at hy; injection hy with hy; rw [← hy]; exact hx)
        have hxe : ((l[k] : Int) == x) = false := by simpa using hx
        generalize l[k] = y at *
        clear hc hg hkl hx HD
        go_wp2_with fail
        go_round
        case rel => exact ⟨k + 1, by omega, by go_num, HD2.out⟩
        case measure => simp [intOf]; omega
    · obtain rfl : k = n := by omega
      obtain rfl : false = R := by
        rw [← HRr.out, decide_eq_false]
        intro hx
        obtain ⟨q, hq, e⟩ := List.mem_iff_getElem.1 hx
        exact HD.out q x (by rw [HL.out] at hq; exact hq) (by rw [List.getElem?_eq_getElem hq, e]) rfl
      clear HRr HD
      go_wp2_with fail
      go_ret
      exact ⟨rfl, rfl⟩

/-- the node with an ID -/
def findD (F : List Pl) (id : Int) : Option Pl := F.find? fun p => decide (p.n.id = id)
def zeroNd : Nd := .mk 0 ByteArray.empty 0 0 []
/-- what FindOf hands back -/
def FindRet (F : List Pl) (id : Int) (w : World) (e : Ending) (w' : World) : Prop :=
  Below w.heap.size w w' ∧ ((∃ p a c, findD F id = some p ∧ e = .returned (.tuple #[.agg (ndA p.n (.slice a p.n.sub.length c)), .bool true]) ∧ IsNds (· < w.heap.size) w' (.slice a p.n.sub.length c) p.n.sub) ∨
    (findD F id = none ∧ e = .returned (.tuple #[.agg (ndA zeroNd (.slice none 0 0)), .bool false])))

set_option maxRecDepth 100000 in
set_option maxHeartbeats 8000000 in
theorem findOf_any (n : Nd) (u : Value) (id : Int) (w : World) (hN : IsNds (· < w.heap.size) w u n.sub) (hO : ∀ x ∈ nodes n, x.Ok1) :
    Calls Tryz.prog 19 #[.agg (ndA n u), .int .i64 id] w (FindRet (flatF [] n 1 (-1)) id w) := by
  obtain ⟨ad, cp, hu⟩ := hN.form
  obtain ⟨len, hlen⟩ : ∃ len, n.sub.length = len := ⟨_, rfl⟩
  rw [hlen] at hu
  subst hu
  obtain ⟨rN, rZ, hbw, hz⟩ := rows2 (w := w) (A := .cells #[.int .i64 n.id, .string n.name, .int .i64 n.rep, .int .i64 n.kind, .slice ad len cp] 24) (B := .cells #[.int .i64 0, .string ⟨#[]⟩, .int .i64 0, .int .i64 0, .slice none 0 0] 24) (Below.refl _ _)
  have hb2 : w.heap.size + 2 ≤ ((w.alloc (.cells #[.int .i64 n.id, .string n.name, .int .i64 n.rep, .int .i64 n.kind, .slice ad len cp] 24)).alloc (.cells #[.int .i64 0, .string ⟨#[]⟩, .int .i64 0, .int .i64 0, .slice none 0 0] 24)).heap.size := row_lt rZ
  have HC := Lib.hid (flatB_any w.heap.size n (.slice ad len cp) _ hbw.size (hN.under hbw) hO)
  have hle : (flatF [] n 1 (-1)).length ≤ 2001 := flatF_len.1 n [] 1 (-1) (by simp)
  have hne : 0 < (flatF [] n 1 (-1)).length := by rw [flatF_eq, if_neg (by simp)]; exact Nat.lt_of_lt_of_le (by simp) (flat_pre.2 n.sub _ _ _).length_le
  obtain ⟨F, hF⟩ : ∃ F, flatF [] n 1 (-1) = F := ⟨_, rfl⟩
  rw [hF] at HC hle hne ⊢
  have HN := Lib.hid hN; have HW0 := Lib.hid hbw; have RN := Lib.hid rN; have RZ := Lib.hid rZ
  unfold ndA at *
  clear hbw hF hN hO rN rZ hz hlen
  go_enter Tryz.func19, Tryz.ntmps19
  go_wp2_with fail
  refine HC.out.mono ?_; rintro e w1 ⟨v, L, rfl, ho, hm, hok, hk⟩
  replace RZ := Lib.hid (hk.keep _ _ _ _ (.inl rfl) (fun h => h) RZ.out); have HB := Lib.hid (HW0.out.trans hk.below)
  have hb21 := Nat.le_trans hb2 hk.below.size
  subst hm
  rw [List.length_map] at hne hle
  obtain ⟨g, cv, rfl, hgB, hgz, hpa⟩ := pls_at ho hne
  have HPA := Lib.hid hpa
  have HOK := Lib.hid hok
  clear ho hok hk hpa HC RN HN
  obtain ⟨N, hN⟩ : ∃ N, L.length = N := ⟨_, rfl⟩
  rw [hN] at hne hle ⊢
  have HLN := Lib.hid hN
  clear hN
  generalize ((w.alloc (.cells #[.int .i64 n.id, .string n.name, .int .i64 n.rep, .int .i64 n.kind, .slice ad len cp] 24)).alloc (.cells #[.int .i64 0, .string ⟨#[]⟩, .int .i64 0, .int .i64 0, .slice none 0 0] 24)) = w0 at *
  go_wp2_with fail
  go_loop [7] (fun i => ∃ k : Nat, k ≤ N ∧ i = .int .i64 (k : Nat) ∧ Hid (∀ (q : Nat) p, q < k → L[q]? = some p → p.n.id ≠ id)) (fun i => N - (intOf i).toNat)
  case atStart => exact ⟨0, Nat.zero_le _, rfl, fun q p hq => absurd hq (Nat.not_lt_zero _)⟩
  case round =>
    obtain ⟨k, hk, rfl, HD⟩ := hrel
    by_cases hlt : k < N
    · have hkl : k < L.length := by rw [HLN.out]; exact hlt
      have hg := List.getElem?_eq_getElem hkl
      have e0 := HPA.out.id k _ hg
      have hin : (k : Int) < (N : Int) := by omega
      by_cases hx : L[k].n.id = id
      · have hfd : findD (L.map PlV.pl) id = some L[k].pl := by
          unfold findD
          rw [List.find?_eq_some_iff_getElem]
          refine ⟨decide_eq_true hx, k, by rw [List.length_map]; exact hkl, by simp, fun q hq => ?_⟩
          have hql : q < L.length := by omega
          have := HD.out q L[q] hq (List.getElem?_eq_getElem hql)
          simpa [PlV.pl] using this
        have hxe : ((L[k].n.id : Int) == id) = true := by simpa using hx
        have e1 := HPA.out.name k _ hg; have e2 := HPA.out.rep k _ hg; have e3 := HPA.out.kind k _ hg; have e4 := HPA.out.sub k _ hg
        have hnx := HOK.out _ (List.getElem_mem hkl)
        generalize L[k] = p at *
        obtain ⟨ax, cx, hux⟩ := hnx.form
        rw [hux] at e4 hnx
        obtain ⟨sl, hsl⟩ : ∃ sl, p.n.sub.length = sl := ⟨_, rfl⟩
        rw [hsl] at e4 hnx
        change w1.cell? ⟨g, k * 7 + 4, none⟩ = some (.slice ax sl cx) at e4
        have HCX := Lib.hid (show ∀ jj v, (#[.int .i64 p.n.id, .string p.n.name, .int .i64 p.n.rep, .int .i64 p.n.kind, .slice ax sl cx] : Array Value)[jj]? = some v → w1.cell? ⟨g, k * 7 + jj, none⟩ = some v from fun jj v h => by
          match jj, h with
          | 0, h => simp at h; subst h; exact e0
          | 1, h => simp at h; subst h; exact e1
          | 2, h => simp at h; subst h; exact e2
          | 3, h => simp at h; subst h; exact e3
          | 4, h => simp at h; subst h; exact e4
          | jj + 5, h => simp at h)
        have HFD := Lib.hid hfd; have HNX := Lib.hid hnx; have HSL := Lib.hid hsl
        clear hg hkl hx HD hfd hnx hux hsl e1 e2 e3 e4
        go_wp2_with (first | (refine wpList_load_cells rfl 24 _ rfl g (k * 7) rfl #[.int .i64 p.n.id, .string p.n.name, .int .i64 p.n.rep, .int .i64 p.n.kind, .slice ax sl cx] _ HCX.out Tryz.underlying24 rfl nd_info ?_) | (refine wpList_store_part rfl 24 _ _ rfl (w.heap.size + 1) 0 _ 24 #[.int .i64 p.n.id, .string p.n.name, .int .i64 p.n.rep, .int .i64 p.n.kind, .slice ax sl cx] rfl rfl RZ.out nd_info (by simp [Value.oneCell']) (Nat.le_of_ble_eq_true rfl) #[.int .i64 p.n.id, .string p.n.name, .int .i64 p.n.rep, .int .i64 p.n.kind, .slice ax sl cx] rfl ?_; intro w7 hr7 ho7 hb7 hz7; have RZ7 := Lib.hid hr7; have HO7 := Lib.hid ho7; have HB7 := Lib.hid hb7; have HZ7 := Lib.hid hz7; clear hr7 ho7 hb7 hz7))
        have HRB := Lib.hid (HB.out.trans (HB7.out.mono (Nat.le_succ _)))
        have hx7 : IsNds (· < w.heap.size) w7 (.slice ax sl cx) p.n.sub := HNX.out.keep (Nat.le_of_eq HZ7.out.symm) (fun b hb _ => HO7.out b (by have : b < w.heap.size := hb; omega))
        refine bodyPost_ret (v := .tuple #[.agg #[.int .i64 p.n.id, .string p.n.name, .int .i64 p.n.rep, .int .i64 p.n.kind, .slice ax sl cx], .bool true]) (results_row_tmp Tryz.results19 _ _ (w.heap.size + 1) 24 _ (0, 0) _ rfl RZ7.out Tryz.underlying24 rfl (by kernel_rfl)) rfl ⟨HRB.out, .inl ⟨p.pl, ax, cx, HFD.out, ?_, ?_⟩⟩
        · show _ = Ending.returned (.tuple #[.agg (ndA p.n (.slice ax p.n.sub.length cx)), .bool true])
          rw [HSL.out]; rfl
        · show IsNds _ w7 (.slice ax p.n.sub.length cx) p.n.sub
          rw [HSL.out]; exact hx7
      · have HD2 := Lib.hid (show ∀ (q : Nat) p, q < k + 1 → L[q]? = some p → p.n.id ≠ id from fun q p hq hp => by
          rcases Nat.lt_succ_iff_lt_or_eq.1 hq with h2 | h2
          · exact HD.out q p h2 hp
          · subst h2; rw [hg] at hp; injection hp with hp; rw [← hp]; exact hx)
        have hxe : ((L[k].n.id : Int) == id) = false := by simpa using hx
        generalize L[k] = p at *
        clear hg hkl hx HD
        go_wp2_with fail
        go_round
        case rel => exact ⟨k + 1, by omega, by go_num, HD2.out⟩
        case measure => simp [intOf]; omega
    · obtain rfl : k = N := by omega
      have hfd : findD (L.map PlV.pl) id = none := by
        unfold findD
        rw [List.find?_eq_none]
        intro x hx
        obtain ⟨p, hp, rfl⟩ := List.mem_map.1 hx
        obtain ⟨q, hq, e⟩ := List.mem_iff_getElem.1 hp
        have := HD.out q p (by rw [HLN.out] at hq; exact hq) (by rw [List.getElem?_eq_getElem hq, e])
        exact fun h => this (of_decide_eq_true h)
      have HFD := Lib.hid hfd
      clear hfd HD
      go_wp2_with (refine wpList_store_part rfl 24 _ _ rfl (w.heap.size + 1) 0 _ 24 #[.int .i64 0, .string ⟨#[]⟩, .int .i64 0, .int .i64 0, .slice none 0 0] rfl rfl RZ.out nd_info (by simp [Value.oneCell']) (Nat.le_of_ble_eq_true rfl) #[.int .i64 0, .string ⟨#[]⟩, .int .i64 0, .int .i64 0, .slice none 0 0] rfl ?_; intro w7 hr7 ho7 hb7 hz7; have RZ7 := Lib.hid hr7; have HO7 := Lib.hid ho7; have HB7 := Lib.hid hb7; have HZ7 := Lib.hid hz7; clear hr7 ho7 hb7 hz7)
      have HRB := Lib.hid (HB.out.trans (HB7.out.mono (Nat.le_succ _)))
      exact bodyPost_ret (v := .tuple #[.agg #[.int .i64 0, .string ⟨#[]⟩, .int .i64 0, .int .i64 0, .slice none 0 0], .bool false]) (results_row_tmp Tryz.results19 _ _ (w.heap.size + 1) 24 _ (0, 0) _ rfl RZ7.out Tryz.underlying24 rfl (by kernel_rfl)) rfl ⟨HRB.out, .inr ⟨HFD.out, rfl⟩⟩
end Go.Proofs.YthfljcpfcnddhaaGreatDoor
