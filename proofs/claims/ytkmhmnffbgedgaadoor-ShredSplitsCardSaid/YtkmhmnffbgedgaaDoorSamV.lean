/- The walk of the document's SameValues. -/
import Derived.Test.YtkmhmnffbgedgaaDoorMVal
import Derived.BigQuiet
import Derived.Deep.QuietTactic
import Derived.Lib.Hide
namespace Go.Proofs.YtkmhmnffbgedgaaDoor
set_option maxHeartbeats 1000000
set_option linter.unusedVariables false
open Go Go.RowKit Go.ChangeShapes
set_option maxRecDepth 100000 in
theorem sameValues_any (v u:Value) (a b:List Val) (w:World) (hv:IsVals w v a) (hu:IsVals w u b) (h2:a.length ≤ maxLen) (h3:b.length ≤ maxLen) :
    Calls Tryd.prog 23 #[v,u] w fun e w'=>e = .returned (.bool (sameB a b)) ∧ Below w.heap.size w w':=by
  have HV:=Lib.hid hv;have HU:=Lib.hid hu
  obtain ⟨ad,cap,rfl⟩:=hv.form
  obtain ⟨ad',cap',rfl⟩:=hu.form
  unfold maxLen at h2 h3
  clear hv hu
  by_cases hl:a.length = b.length
  · have Hl:=Lib.hid hl
    have d1:((a.length:Int) != (b.length:Int)) = false:=by rw [hl];simp
    clear hl
    go_enter Tryd.func23,Tryd.ntmps23
    go_wp2_with fail
    go_loopw [5] (fun i wr=>∃ k:Nat,k ≤ a.length ∧ i = .int .i64 k ∧ a.take k = b.take k ∧ ∃ n,wr = w.drewN n) (fun i _=>a.length - (intOf i).toNat)
    case atStart=>exact ⟨0,Nat.zero_le _,rfl,rfl,0,rfl⟩
    case round =>
      obtain ⟨k,hk,rfl,ht,n,rfl⟩:=hrel
      have Ht:=Lib.hid ht
      clear ht
      by_cases hlt:k < a.length
      · obtain ⟨b0,off,rfl,hq,hlt0,hc⟩:=HV.out.at (by omega)
        obtain ⟨b1,off1,rfl,hq1,hlt1,hc1⟩:=HU.out.at (by have:=Hl.out;omega)
        have hx:=List.getElem?_eq_getElem hlt
        have hy:=List.getElem?_eq_getElem (show k < b.length by have:=Hl.out;omega)
        have l1:=loadV (hc k _ hx)
        have l2:=loadV (hc1 k _ hy)
        have e1:=fun w=>neq_val a[k] (b[k]'(by have:=Hl.out;omega)) w
        generalize a[k] = x at *
        generalize b[k]'(by have:=Hl.out;omega) = y at *
        have Hx:=Lib.hid hx;have Hy:=Lib.hid hy
        clear hc hc1 hq hq1 hx hy
        have hin:(k:Int) < (a.length:Int):=by omega
        have hin2:(k:Int) < (b.length:Int):=by have:=Hl.out;omega
        cases he:valEq x y
        · rw [he] at e1
          have Hf:=Lib.hid (sameB_false Hx.out Hy.out he)
          clear he
          go_wp2_with fail
          refine wp_region_quiet_lit (by kernel_rfl) (by kernel_rfl) ?_
          repeat (go_big_quiet_step (fail))
          refine wpQuiet_loadS rfl _ _ rfl _ rfl _ (fun w ⟨q,hq⟩=>by rw [hq,World.drewN_drewN];exact l1 _) ?_
          repeat (quiet_step (fail))
          refine wpQuiet_loadS rfl _ _ rfl _ rfl _ (fun w ⟨q,hq⟩=>by rw [hq,World.drewN_drewN];exact l2 _) ?_
          refine wpQuiet_binS rfl .neq _ _ _ _ rfl (.agg (valA x)) (.agg (valA y)) _ rfl rfl (fun w=>val_guard _ _ _ x y w) e1 ?_
          refine wpQuiet_nil ?_
          rintro w' ⟨q,hq⟩
          rw [World.drewN_drewN] at hq
          subst hq
          go_simp
          go_wp2_with fail
          go_ret
          exact ⟨ret_of (by rw [Hf.out];rfl),below_drewN (Below.refl _ _) _⟩
        · rw [he] at e1
          have Htk:=Lib.hid (valEq_take Ht.out Hx.out Hy.out he)
          clear he
          go_wp2_with fail
          refine wp_region_quiet_lit (by kernel_rfl) (by kernel_rfl) ?_
          repeat (go_big_quiet_step (fail))
          refine wpQuiet_loadS rfl _ _ rfl _ rfl _ (fun w ⟨q,hq⟩=>by rw [hq,World.drewN_drewN];exact l1 _) ?_
          repeat (quiet_step (fail))
          refine wpQuiet_loadS rfl _ _ rfl _ rfl _ (fun w ⟨q,hq⟩=>by rw [hq,World.drewN_drewN];exact l2 _) ?_
          refine wpQuiet_binS rfl .neq _ _ _ _ rfl (.agg (valA x)) (.agg (valA y)) _ rfl rfl (fun w=>val_guard _ _ _ x y w) e1 ?_
          refine wpQuiet_nil ?_
          rintro w' ⟨q,hq⟩
          rw [World.drewN_drewN] at hq
          subst hq
          go_simp
          go_wp2_with fail
          go_roundw
          case rel=>exact ⟨k + 1,by omega,by go_num,Htk.out,_,rfl⟩
          case measure=>simp [intOf];omega
      · have hkl:k = a.length:=by omega
        have Hs:=Lib.hid (show sameB a b = true by
          rw [sameB_iff]
          have:=Ht.out
          rwa [hkl,List.take_length,Hl.out,List.take_length] at this)
        clear hkl
        go_wp2_with fail
        go_ret
        exact ⟨ret_of (by rw [Hs.out];rfl),below_drewN (Below.refl _ _) _⟩
  · have Hs:=Lib.hid (show sameB a b = false by
      cases hs:sameB a b with
      | false=>rfl
      | true=>exact absurd (by rw [(sameB_iff a b).1 hs]) hl)
    have d1:((a.length:Int) != (b.length:Int)) = true:=by simp;omega
    clear hl
    go_enter Tryd.func23,Tryd.ntmps23
    go_wp2_with fail
    go_ret
    exact ⟨ret_of (by rw [Hs.out];rfl),Below.refl _ _⟩
end Go.Proofs.YtkmhmnffbgedgaaDoor
