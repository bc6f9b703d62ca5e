/- CnfTidyMeans: the card: for every Cnf and every list of bools whose bulk is at most 1048576 the law answers true and its arguments stay as they were. -/
import Derived.Test.YtnadmnhkfdkafaaGreatDoorCnfTidyMeansRow
namespace Go.Proofs.YtnadmnhkfdkafaaGreatDoor.tidyMeans
open Go.ChangeShapes Go.WideShapes Go.ChangeAt Go.RowKit Go.Deep

theorem cInPlace : (Rows.cnfTidyMeansUptoRow.inPlace == Tryz.pinned.checked.prog.inPlace 10) = true := by kernel_rfl
theorem cUnfollowed : (Rows.cnfTidyMeansUptoRow.unfollowed == Tryz.pinned.checked.prog.unfollowed 10) = true := by kernel_rfl
theorem cRecurses : (Rows.cnfTidyMeansUptoRow.recurses == Tryz.pinned.checked.prog.recurses 10) = true := by kernel_rfl
theorem cNamed : (Rows.cnfTidyMeansUptoRow.named == Tryz.pinned.checked.prog.varsNamed 10) = true := by kernel_rfl
theorem cClosed : joinedFacts Tryz.pinned.checked.prog 10 Tryz.f10 (Rows.OpenSpec.upto Rows.cnfTidyMeansSpec).bare Rows.cnfTidyMeansUptoRow = true := by
  unfold joinedFacts
  rw [cInPlace, cUnfollowed, cRecurses, cNamed]
  kernel_rfl
theorem cFunc : Tryz.pinned.checked.prog.funcNamed Rows.cnfTidyMeansUptoRow.func = some 10 := by kernel_rfl
theorem cInst : Tryz.f10.isInstance Tryz.pinned.checked.prog Rows.cnfTidyMeansUptoRow.origin Rows.cnfTidyMeansUptoRow.targs := of_decide_eq_true (by kernel_rfl)
theorem cWrap : Tryz.f10.isWrapper Tryz.pinned.checked.prog Rows.cnfTidyMeansUptoRow.wrapper Rows.cnfTidyMeansUptoRow.mainSum := by
  unfold Func.isWrapper; first | (rw [if_pos (by decide +kernel)]; kernel_rfl) | (rw [if_neg (by decide +kernel)]; exact ⟨rfl, rfl⟩)
theorem saidUpto : Rows.CnfTidyMeansUptoSaid :=
  OpenClaim.holds_of_cond 10 Tryz.f10 rfl rfl rfl rfl rfl rfl rfl ⟨rfl, rfl, rfl, rfl, rfl⟩ rfl rfl rfl rfl rfl cFunc Tryz.func10 cClosed cInst cWrap
    (fun os started H enc _ F => by rw [OpenClaim.pre_eq_preRow]; exact liftedUpto os started H enc F)

theorem plain (f : FuncId) (fn : Func) (hf : Tryz.pinned.checked.prog.funcNamed "arbiter/arbiterlaw9.CnfTidyMeans" = some f) (hfn : Tryz.pinned.checked.prog.funcs[f]? = some fn) :
    true = Tryz.pinned.checked.prog.looks [] ∧ ∀ (j : Nat) t, fn.params[j]? = some t → Tryz.pinned.checked.prog.wantsStandIn t = false := by
  obtain rfl : f = 10 := Option.some.inj ((show Tryz.prog.funcNamed "arbiter/arbiterlaw9.CnfTidyMeans" = some 10 by kernel_rfl).symm.trans hf) |>.symm
  obtain rfl : fn = Tryz.f10 := (Option.some.inj (Tryz.func10.symm.trans hfn)).symm
  refine ⟨by kernel_rfl, fun j t ht => ?_⟩
  rw [Tryz.params10] at ht
  have ht' : t = 54 ∨ t = 45 := by simpa using Array.mem_of_getElem? ht
  rcases ht' with rfl | rfl
  · exact (show Tryz.prog.wantsStandIn 54 = false by kernel_rfl)
  · exact (show Tryz.prog.wantsStandIn 45 = false by kernel_rfl)

/-- the card -/
theorem cnfTidyMeans_card : Rows.CnfTidyMeansUptoCardSaid :=
  Claim7.holds_tied_plain_at .later [] _ _ _ _ saidUpto (fun _ h => by cases h) (by kernel_rfl) (fun _ h => by cases h) cnfTidyMeansUpto_row_tie rfl ⟨rfl, rfl⟩ (by kernel_rfl) rfl plain (by kernel_rfl)
#print axioms cnfTidyMeans_card
end Go.Proofs.YtnadmnhkfdkafaaGreatDoor.tidyMeans
