/- The walk of enc.ReadPrefix. -/
import Derived.Test.YtddefnnimbjnaaaDoorMWire
import Derived.Test.YtddefnnimbjnaaaDoorMPre
import Derived.Test.YtddefnnimbjnaaaDoorRead3
import Derived.Test.YtddefnnimbjnaaaDoorRd0
namespace Go.Proofs.YtddefnnimbjnaaaDoor
set_option linter.unusedVariables false
open Go Go.RowKit Go.ChangeShapes

theorem info_strX : (Tryd.prog.info? 9).map (fun i => (i.zero, i.size, i.bytes)) = some (some (.string ByteArray.empty), 1, 16) := by kernel_rfl
/-- what ReadPrefix hands back -/
def XRet (ev : Value) (B : Nat) (r : Option (List (List UInt8))) (e : Ending) (w' : World) : Prop :=
  match r with
  | none => e = .returned (.tuple #[.slice none 0 0, ev])
  | some L => ∃ u ls, e = .returned (.tuple #[u, .nilIface]) ∧ bytesL ls = L ∧ w'.ownsRow B 9 1 u ls.length (ls.map strV)
theorem XRet.bad {ev : Value} {B : Nat} {r : Option (List (List UInt8))} {w' : World} (h : r = none) : XRet ev B r (.returned (.tuple #[.slice none 0 0, ev])) w' := by rw [h]; exact rfl
theorem readX_none {s : List UInt8} {n : Nat} (h : prefixP [] n s = none) : readX s n = none := by unfold readX; rw [h]

theorem prefixP_step {n k u m : Nat} {last s t : List UInt8} (h : readU s = some (k, u)) (hk : ¬ last.length < k) (ht : readT (s.drop u) = some (t, m)) (h100 : ¬ 100 < k + t.length) :
    prefixP last (n + 1) s = (prefixP (last.take k ++ t) n ((s.drop u).drop m)).map ((last.take k ++ t) :: ·) := by
  rw [prefixP, h]; simp only []; rw [if_neg hk, ht]; simp only []; rw [if_neg h100]
set_option maxRecDepth 100000 in
set_option maxHeartbeats 1000000 in
theorem readPrefix_bound (s : ByteArray) (n : Int) (w : World) (v : Value) (hE : w.cell? ⟨0, 0, none⟩ = some v) (h : n < 0 ∨ 20000 < n) :
    Calls Tryd.prog 32 #[.string s, .int .i64 n] w fun e w' => e = .returned (.tuple #[.slice none 0 0, v]) ∧ Below w.heap.size w w' := by
  by_cases h1 : n < 0
  · clear h
    go_enter Tryd.func32, Tryd.ntmps32
    go_wp2_with fail
    go_quiet (fail)
    go_wp2_with fail
    go_ret2
    exact ⟨rfl, below_drewN (Below.refl _ _) _⟩
  · have h2 : 20000 < n := by omega
    clear h
    go_enter Tryd.func32, Tryd.ntmps32
    go_wp2_with fail
    go_quiet (fail)
    go_wp2_with fail
    go_ret2
    exact ⟨rfl, below_drewN (Below.refl _ _) _⟩

set_option maxRecDepth 100000 in
set_option maxHeartbeats 4000000 in
theorem readPrefix_any (s : ByteArray) (n : Nat) (T : TypeId) (x : Value) (w : World) (hn : n ≤ 20000) (hs : s.size ≤ 100000) (hev : w.cell? ⟨1, 0, none⟩ = some (.iface T x)) :
    Calls Tryd.prog 32 #[.string s, .int .i64 (n : Nat)] w fun e w' => XRet (.iface T x) w.heap.size (readX s.data.toList n) e w' ∧ Below w.heap.size w w' := by
  obtain ⟨i0, hi, hz0, hz1, hz2⟩ := info_parts info_strX
  have hsz : (1 : Nat) < w.heap.size := block_lt_of_cell hev
  have Hsz := Lib.hid hsz; have Hev := Lib.hid hev
  clear hsz hev
  go_enter Tryd.func32, Tryd.ntmps32
  go_wp2_with fail
  go_loopw [6, 7, 8, 25] (fun u re la i wr => ∃ (L : List ByteArray) (r : ByteArray) (last : List UInt8), L.length ≤ n ∧ i = .int .i64 (L.length : Nat) ∧ re = .string r ∧ la = .string ⟨last.toArray⟩ ∧ r.size ≤ s.size ∧ last.length ≤ 100 ∧
    wr.ownsRow w.heap.size 9 1 u L.length (L.map strV) ∧ (∀ y ∈ L, y.size ≤ 100) ∧ Below w.heap.size w wr ∧
    prefixP [] n s.data.toList = (prefixP last (n - L.length) r.data.toList).map (bytesL L ++ ·)) (fun _ _ _ i _ => n - (intOf i).toNat)
  case atStart => exact ⟨[], s, [], Nat.zero_le _, rfl, rfl, rfl, Nat.le_refl _, Nat.zero_le _, World.ownsRow_nil _ _ _ _, by simp, Below.refl _ _, by simp [bytesL]⟩
  case round =>
    obtain ⟨L, r, last, hLn, rfl, rfl, rfl, hrs, hls, hown, hall, hb, hinv⟩ := hrel
    have hevr := (hb.cell (p := ⟨1, 0, none⟩) Hsz.out).trans Hev.out
    have Hinv := Lib.hid hinv; have Hown := Lib.hid hown; have Hall := Lib.hid hall; have Hb := Lib.hid hb
    have hrm : r.size ≤ maxLen := by unfold maxLen; omega
    clear hinv hown hall hb
    by_cases hlt : L.length < n
    · have hlt' : (L.length : Int) < (n : Int) := by omega
      obtain ⟨lf, hlf⟩ : ∃ lf, n - L.length = lf + 1 := ⟨n - L.length - 1, by omega⟩
      have Hlf := Lib.hid hlf
      rw [hlf] at Hinv
      clear hlf
      cases hU : readU r.data.toList with
      | none =>
        have hc := fun w1 hh => readUvarint_none r (.iface T x) w1 hrm hh hU
        have Hc := Lib.hid hc
        have HN := Lib.hid (show prefixP last (lf + 1) r.data.toList = none by unfold prefixP; rw [hU])
        clear hc hU
        go_wp2_with fail
        refine (Hc.out _ hevr).mono ?_; rintro e w1 ⟨rfl, hb1⟩
        have hev1 := (hb1.cell (p := ⟨1, 0, none⟩) (block_lt_of_cell hevr)).trans hevr
        go_wp2_with fail
        go_quiet (fail)
        go_wp2_with fail
        go_ret2
        refine ⟨XRet.bad (readX_none (by rw [Hinv.out, HN.out]; rfl)), below_drewN (Hb.out.trans (hb1.mono Hb.out.size)) _⟩
      | some y =>
        obtain ⟨k, kk⟩ := y
        have hc := fun w1 hh => readUvarint_some r (.iface T x) w1 hrm hh hU
        have Hc := Lib.hid hc
        obtain ⟨hl1, hl2, hl3, hl4⟩ := readU_lt hU
        have hrl : r.data.toList.length = r.size := by simp
        rw [hrl] at hl3
        have HU := Lib.hid hU
        clear hc hU hrl
        by_cases hkl : last.length < k
        · have HN := Lib.hid (show prefixP last (lf + 1) r.data.toList = none by unfold prefixP; rw [HU.out]; simp only []; rw [if_pos hkl])
          have hki : (last.length : Int) < (k : Int) := by omega
          go_wp2_with fail
          refine (Hc.out _ hevr).mono ?_; rintro e w1 ⟨rfl, hb1⟩
          have hev1 := (hb1.cell (p := ⟨1, 0, none⟩) (block_lt_of_cell hevr)).trans hevr
          go_wp2_with fail
          go_quiet (fail)
          go_wp2_with fail
          go_ret2
          refine ⟨XRet.bad (readX_none (by rw [Hinv.out, HN.out]; rfl)), below_drewN (Hb.out.trans (hb1.mono Hb.out.size)) _⟩
        · have hkl' : k ≤ last.length := by omega
          have Hkl := Lib.hid hkl
          have hes : (r.extract kk r.size).size ≤ maxLen := by simp; unfold maxLen; omega
          have he := bext_list r kk
          clear hkl
          cases hT : readT (r.data.toList.drop kk) with
          | none =>
            have HN := Lib.hid (show prefixP last (lf + 1) r.data.toList = none by unfold prefixP; rw [HU.out]; simp only []; rw [if_neg Hkl.out, hT])
            have hct := fun w1 hh => readText_none (r.extract kk r.size) T x w1 hes hh (by rw [he]; exact hT)
            have Hct := Lib.hid hct
            clear hct hT he
            go_wp2_with fail
            refine (Hc.out _ hevr).mono ?_; rintro e w1 ⟨rfl, hb1⟩
            have hev1 := (hb1.cell (p := ⟨1, 0, none⟩) (block_lt_of_cell hevr)).trans hevr
            have Hb1 := Lib.hid (Hb.out.trans (hb1.mono Hb.out.size))
            clear hb1
            go_wp2_with fail
            refine (Hct.out _ hev1).mono ?_; rintro e w2 ⟨rfl, hb2⟩
            have hev2 := (hb2.cell (p := ⟨1, 0, none⟩) (block_lt_of_cell hev1)).trans hev1
            go_wp2_with fail
            go_quiet (fail)
            go_wp2_with fail
            go_ret2
            refine ⟨XRet.bad (readX_none (by rw [Hinv.out, HN.out]; rfl)), below_drewN (Hb1.out.trans (hb2.mono Hb1.out.size)) _⟩
          | some y =>
            obtain ⟨t, m⟩ := y
            have hct := fun w1 hh => readText_some (r.extract kk r.size) T x w1 hes hh (by rw [he]; exact hT)
            have Hct := Lib.hid hct
            have htl := (readT_inv hT).2
            have hml := htl.2.2
            have htl2 := htl.2.1
            rw [List.length_drop] at hml
            have hrl : r.data.toList.length = r.size := by simp
            rw [hrl] at hml
            have HT := Lib.hid hT
            clear hct hT he htl hrl
            by_cases h100 : 100 < k + t.length
            · have HN := Lib.hid (show prefixP last (lf + 1) r.data.toList = none by unfold prefixP; rw [HU.out]; simp only []; rw [if_neg Hkl.out, HT.out]; simp only []; rw [if_pos h100])
              have h100' : (100 : Int) < (k : Int) + (t.length : Int) := by omega
              go_wp2_with fail
              refine (Hc.out _ hevr).mono ?_; rintro e w1 ⟨rfl, hb1⟩
              have hev1 := (hb1.cell (p := ⟨1, 0, none⟩) (block_lt_of_cell hevr)).trans hevr
              have Hb1 := Lib.hid (Hb.out.trans (hb1.mono Hb.out.size))
              clear hb1
              go_wp2_with fail
              refine (Hct.out _ hev1).mono ?_; rintro e w2 ⟨rfl, hb2⟩
              have hev2 := (hb2.cell (p := ⟨1, 0, none⟩) (block_lt_of_cell hev1)).trans hev1
              go_wp2_with fail
              go_quiet (fail)
              go_wp2_with fail
              go_ret2
              refine ⟨XRet.bad (readX_none (by rw [Hinv.out, HN.out]; rfl)), below_drewN (Hb1.out.trans (hb2.mono Hb1.out.size)) _⟩
            · have HN := Lib.hid (show prefixP last (lf + 1) r.data.toList = (prefixP (last.take k ++ t) lf ((r.data.toList.drop kk).drop m)).map ((last.take k ++ t) :: ·) from prefixP_step HU.out Hkl.out HT.out h100)
              have h100' : (k : Int) + (t.length : Int) ≤ 100 := by omega
              have h63 : L.length + 1 ≤ maxLen := by unfold maxLen; omega
              have h64 : (L.length + 1) * 16 ≤ 140737488355328 := by omega
              have hkm : kk + m ≤ r.size := by omega
              go_wp2_with fail
              refine (Hc.out _ hevr).mono ?_; rintro e w1 ⟨rfl, hb1⟩
              have hev1 := (hb1.cell (p := ⟨1, 0, none⟩) (block_lt_of_cell hevr)).trans hevr
              have Hb1 := Lib.hid (Hb.out.trans (hb1.mono Hb.out.size))
              have Hown1 := Lib.hid (bown_below Hown.out hb1)
              clear hb1
              go_wp2_with fail
              refine (Hct.out _ hev1).mono ?_; rintro e w2 ⟨rfl, hb2⟩
              have Hb2 := Lib.hid (Hb1.out.trans (hb2.mono Hb1.out.size))
              have Hown2 := Lib.hid (bown_below Hown1.out hb2)
              have hbs2 := Hb2.out.size
              clear hb2 hev1
              go_wp2_with (at_builtin; refine wpList_push rfl _ _ 43 rfl w.heap.size 9 i0 (.string ByteArray.empty) 16 Tryd.underlying43 hi hz0 hz1 hz2 rfl strV (fun _ => rfl) _ _ rfl Hown2.out _ _ rfl h63 h64 hbs2 _ rfl ?_; intro v' w3 hown' hb' hnn; have Ho' := Lib.hid hown'; have Hb3 := Lib.hid (Hb2.out.trans hb'); clear hown' hb')
              go_roundw
              case rel =>
                have hE : (ByteArray.mk last.toArray).extract 0 k ++ ByteArray.mk t.toArray = ⟨(last.take k ++ t).toArray⟩ := by
                  rw [ba_extract, ByteArray.mk_append_mk]
                  simp
                have hl1 : (L ++ [(ByteArray.mk last.toArray).extract 0 k ++ ByteArray.mk t.toArray]).length = L.length + 1 := by simp
                have hlt1 : (last.take k ++ t).length ≤ 100 := by rw [List.length_append, List.length_take]; omega
                refine ⟨_, r.extract (kk + m) r.size, last.take k ++ t, by rw [hl1]; omega, by rw [hl1]; rfl, rfl, by rw [hE], by simp; omega, hlt1, Ho'.out, ?_, Hb3.out, ?_⟩
                · intro y hy
                  rcases List.mem_append.1 hy with hy | hy
                  · exact Hall.out y hy
                  · obtain rfl := List.mem_singleton.1 hy
                    rw [hE]; exact hlt1
                · rw [Hinv.out, HN.out, hl1, show n - (L.length + 1) = lf by have := Hlf.out; omega, bext_list, Option.map_map, List.drop_drop]
                  congr 1
                  funext y
                  rw [hE]
                  simp [bytesL]
              case measure => simp [intOf]; omega
    · obtain rfl : L.length = n := by omega
      rw [Nat.sub_self] at Hinv
      have hpa : prefixP [] L.length s.data.toList = some (bytesL L) := by rw [Hinv.out]; simp [prefixP]
      have HPx := Lib.hid (fun w1 hh => prefix_ok u6 L w1 hh hn Hall.out)
      have HIs := Lib.hid (IsStrs.of_own Hown.out)
      obtain ⟨adu, capu, rfl⟩ := bslice_form Hown.out
      have hra : readX s.data.toList L.length = if prefixB [] (bytesL L) = s.data.toList then some (bytesL L) else none := by unfold readX; rw [hpa]
      have Hra := Lib.hid hra
      clear hpa hra
      by_cases he : prefixB [] (bytesL L) = s.data.toList
      · rw [if_pos he] at Hra
        have hneq : (prefixB [] (bytesL L) == s.toList) = true := by rw [ByteArray.toList_eq, beq_iff_eq]; exact he
        clear he
        go_wp2_with fail
        refine (HPx.out _ HIs.out).mono ?_; rintro e w1 ⟨rfl, hb1⟩
        have Ho1 := Lib.hid (bown_below Hown.out hb1)
        have Hb1 := Lib.hid (Hb.out.trans (hb1.mono Hb.out.size))
        clear hb1
        go_wp2_with fail
        go_ret2
        refine ⟨?_, Hb1.out⟩
        rw [Hra.out]
        exact ⟨_, L, rfl, rfl, Ho1.out⟩
      · rw [if_neg he] at Hra
        have hneq : (prefixB [] (bytesL L) == s.toList) = false := by rw [ByteArray.toList_eq, beq_eq_false_iff_ne]; exact he
        clear he
        go_wp2_with fail
        refine (HPx.out _ HIs.out).mono ?_; rintro e w1 ⟨rfl, hb1⟩
        have hev1 := (hb1.cell (p := ⟨1, 0, none⟩) (block_lt_of_cell hevr)).trans hevr
        have Hb1 := Lib.hid (Hb.out.trans (hb1.mono Hb.out.size))
        clear hb1
        go_wp2_with fail
        go_quiet (fail)
        go_wp2_with fail
        go_ret2
        exact ⟨XRet.bad Hra.out, below_drewN Hb1.out _⟩
end Go.Proofs.YtddefnnimbjnaaaDoor
