/- CnfTidyMeans: for every Cnf and every list of bools whose bulk is at most 1048576 the law answers true and its arguments stay as they were. -/
import Derived.Test.YtnadmnhkfdkafaaGreatDoorTmLaw
import Derived.Test.YtnadmnhkfdkafaaGreatDoorOpen
import Derived.Test.YtnadmnhkfdkafaaGreatDoorCards
import Derived.Test.YtnadmnhkfdkafaaGreatDoorTie
import Derived.ProofKit
import Derived.OpenShut
import Derived.Deep.DeepHandedRow
import Derived.Deep.DeepWitnessRowRef
import Derived.Deep.Grids
import Derived.Lib.LaidTab
import Derived.Carry
import Derived.LaidSub
import Derived.LaidMore
import Derived.Stop.LaidErr
namespace Go.Proofs.YtnadmnhkfdkafaaGreatDoor.tidyMeans
open Go.ChangeShapes Go.WideShapes Go.ChangeAt Go.RowKit Go.Deep

/-- 'post_of_same', the frozen cells asked of old blocks alone -/
theorem post_of_old {H : Type} {enc : TypeId × Value → H} {P : Program} {f : Func} {s : ChangeSpec} {apart fresh handsOn again : Bool} {W W' : World} {args : Array Value} {v : Value} {ds gs : List (DataW H)} {before pa pv : List MemPlace}
    (hW : DataW.Whole enc P f.params.toList s.vars apart W args.toList ds gs before)
    (hres : ∀ (b : Nat) (sp : Nat → Bool) (hd : Bool), DataW.TrodAll enc P W' b sp hd f.resultTypes.toList (v.resultList f.resultTypes.size) (s.fn H (ds ++ gs)).results [])
    (hargs : ∀ sp : Nat → Bool, (∀ p ∈ before, sp p.block = true) → DataW.TrodAll enc P W' 0 sp true f.params.toList args.toList (s.fn H (ds ++ gs)).args pa)
    (hvars : ∀ sp : Nat → Bool, (∀ p ∈ before, sp p.block = true) → DataW.TrodVars enc P W' sp s.vars (s.fn H (ds ++ gs)).vars pv)
    (hps : before = pa ++ pv) (hk : W.keptBut W' (· ∈ before)) (hfz : ∀ a : Addr, a.block < W.heap.size → W'.frozen? a = W.frozen? a)
    (hok : ∀ (j : Nat) (t : TypeId) (r : Value), f.resultTypes[j]? = some t → (v.resultList f.resultTypes.size)[j]? = some r → Value.okWide P W' .any 0 t r) :
    s.post enc P f apart fresh handsOn again W args v W' := by
  have hlt := hW.lt
  have hold : ∀ p ∈ before, (fun b => decide (b < W.heap.size)) p.block = true := fun p hp => by simpa using hW.lt p hp
  refine ⟨ds, gs, before, [], pa, pv, hW, hres _ _ _, hargs _ hold, hvars _ hold, World.keptBut_mono (fun p hp => ⟨hp, ?_⟩) hk, fun _ => ?_⟩
  · rw [hps, List.mem_append] at hp
    exact Or.inr hp
  · obtain ⟨_, _, _, _, _, hz, hn⟩ := hW
    refine ⟨hok, _, _, ([] ++ pa) ++ pv, ⟨[] ++ pa, pv, trodAll_append (hargs _ (fun _ _ => rfl)) (hres _ _ _), hvars _ (fun _ _ => rfl), rfl, ?_, ?_⟩, ?_⟩
    · intro b off hp
      have hp' : MemPlace.cell b off ∈ before := by rw [hps]; simpa using hp
      rw [hfz _ (hlt _ hp')]
      exact hz b off hp'
    · intro ha
      have := hn ha
      rw [hps] at this
      simpa using this
    · intro p hp _
      rw [hps]
      simpa using hp

theorem own : ownKnob Tryz.prog.godebug = none := by kernel_rfl
theorem gTab : Tryz.prog.globalNamed "internal/strconv.uint64pow10" = some 5 := by kernel_rfl
theorem gTabType : (Tryz.prog.globals[5]?).map (·.type) = some 351 := by kernel_rfl
theorem cellsTab : Tryz.prog.cellsOf 351 = 20 := by kernel_rfl
theorem cellsU64 : Tryz.prog.cellsOf 241 = 1 := by kernel_rfl
/-- what the row's list gives -/
theorem table_of {W : World} (h : laidMetH Tryz.prog Rows.cnfTidyMeansUptoRow.laid W) : Tab W :=
  Lib.tabIs_of_head (rest := []) gTab gTabType Tryz.underlying351 Tryz.underlying241 cellsU64 cellsTab (laidMetH.filter (fun x => x.1 == "internal/strconv.uint64pow10") h)
theorem gRangeType : (Tryz.prog.globals[2]?).map (·.type) = some 190 := by kernel_rfl
theorem star : "*" ++ "errors.errorString" = "*errors.errorString" := by decide
theorem rowErr (u : TypeId) (h : Tryz.prog.typeName? 3 u = some "*errors.errorString") : u = 360 :=
  typeName_ptr_named (nm := "errors.errorString") (by rw [star]; kernel_rfl) (by kernel_rfl) (by decide) u (by rw [star]; exact h)
theorem rangeV_of {W : World} (h : laidMetH Tryz.prog Rows.cnfTidyMeansUptoRow.laid W) : RangeV W := by
  obtain ⟨a0, s0, hv0, -, -, -⟩ := laid_sentinel (r := []) (laidMetH.filter (fun x => x.1 == "strconv.ErrRange") h) gRange gRangeType Tryz.underlying190 rowErr Tryz.underlying360 Tryz.underlying362 rfl rfl Tryz.underlying9 (by kernel_rfl) (by kernel_rfl)
  exact ⟨_, _, hv0⟩

set_option maxRecDepth 100000 in
/-- what a list of bools reads as -/
theorem open_bl {H : Type} {enc : TypeId × Value → H} {W : World} {r : Reach} {b0 : Nat} {v : Value} {d : DataW H} {p : List MemPlace} (hv : Value.okWide Tryz.prog W r b0 45 v) (h : DataW.Trod enc Tryz.prog W 0 (fun _ => true) true 45 v d p) (hb : Rows.uptoBulk d ≤ 1048576) :
    ∃ (A : Option Addr) (c : Nat) (bs : List Bool), v = .slice A bs.length c ∧ BoolsAt W A bs ∧ bs.length ≤ 1048576 := by
  obtain ⟨a0, l0, c0, rfl⟩ := okWide_slice Tryz.underlying45 hv
  obtain ⟨fuel, hf⟩ := h
  rcases open_bools Tryz.underlying45 Tryz.underlying4 (by kernel_rfl) hf with ⟨e, _⟩ | ⟨a, len, cap, B, e, _, hlc, _, hx, hc⟩
  · have e' : Value.slice a0 l0 c0 = .slice none 0 0 := by simpa [Value.cells] using e
    rw [e']
    exact ⟨none, 0, [], rfl, .inl rfl, by simp⟩
  · have e' : Value.slice a0 l0 c0 = .slice (some a) len cap := by simpa [Value.cells] using e
    rw [e']
    refine ⟨some a, cap, (List.range len).map B, by simp, .inr ⟨a, rfl, fun j u hu => ?_⟩, ?_⟩
    · rw [List.getElem?_map, List.getElem?_map, Option.map_eq_some_iff] at hu
      obtain ⟨z, hz, rfl⟩ := hu
      rw [Option.map_eq_some_iff] at hz
      obtain ⟨i, hi, rfl⟩ := hz
      have hj : j < len := by have := (List.getElem?_eq_some_iff.1 hi).1; simpa using this
      rw [List.getElem?_range hj] at hi
      injection hi with hi
      subst hi
      exact hc j (by omega)
    · have hx1 : d = boolRow (some a) len cap B := congrArg Prod.fst hx
      rw [hx1] at hb
      simp only [boolRow, Rows.uptoBulk] at hb
      have h4 := bulkAll_length ((List.range len).map fun i => (.lit (.bool (B i)) : DataW H))
      simp at h4 ⊢
      omega

set_option maxRecDepth 100000 in
theorem contract (H : Type) (enc : TypeId × Value → H) (W : World) (base : Nat) (args : Array Value) (ds gs : List (DataW H)) (before : List MemPlace)
    (hval : ∀ (j : Nat) t v, Tryz.f10.params[j]? = some t → args[j]? = some v → Value.okWide Tryz.prog W .any base t v)
    (hW : DataW.Whole enc Tryz.prog Tryz.f10.params.toList Rows.cnfTidyMeansSpec.vars false W args.toList ds gs before) (hL : laidMetH Tryz.prog Rows.cnfTidyMeansUptoRow.laid W) (hbulk : Rows.uptoBulkAll ds ≤ 1048576) :
    Calls Tryz.prog 10 args W fun e W' => ∃ v, e = .returned v ∧ Rows.cnfTidyMeansSpec.post enc Tryz.prog Tryz.f10 false true false false W args v W' := by
  have hW' := hW
  obtain ⟨p, q, hA0, hV, rfl, hfz, hnd⟩ := hW
  have hA : DataW.TrodAll enc Tryz.prog W 0 (fun _ => true) true Tryz.f10.params.toList args.toList ds p := hA0
  rw [Tryz.params10] at hA hval
  obtain ⟨v0, vs0, d0, ds0, p0, q0, hargs, rfl, rfl, h0, r0⟩ := trodAll_cons hA
  obtain ⟨v1, vs1, d1, ds1, p1, q1, hargs1, rfl, rfl, h1, r1⟩ := trodAll_cons r0
  obtain ⟨rfl, rfl, rfl⟩ := trodAll_nil r1
  subst hargs1
  obtain rfl : args = #[v0, v1] := by rw [← Array.toArray_toList (xs := args), hargs]
  obtain ⟨rfl, rfl⟩ := trodVars_none hV
  have hb0 : Rows.uptoBulk d0 ≤ 1048576 := by simp [Rows.uptoBulkAll] at hbulk; omega
  have hb1 : Rows.uptoBulk d1 ≤ 1048576 := by simp [Rows.uptoBulkAll] at hbulk; omega
  obtain ⟨n, A, c, xss, At, ct, ts, rfl, hR, hI, hc, hl, htl, hxl⟩ := open_cnf (hval 0 54 v0 rfl rfl) h0 hb0
  obtain ⟨Av, cv, bs, rfl, hBs, hbl⟩ := open_bl (hval 1 45 v1 rfl rfl) h1 hb1
  have htab : Tab W := table_of hL
  refine (means_calls n A c xss At ct ts Av cv bs W hR hI hBs hl htl hxl (by omega) hc (rangeV_of hL) htab).mono fun e W' ⟨he, hb⟩ => ?_
  subst he
  have hlt := hW'.lt
  refine ⟨_, rfl, post_of_old (pa := p0 ++ (p1 ++ [])) (pv := []) hW' (fun _ _ _ => trodAll_cons_mk (shut_bool Tryz.underlying4 _) trodAll_mk0) (fun sp hsp => ?_) (fun _ _ => rfl) rfl (hb.frame _) (fun a ha => hb.frozen ha) (ok_one (by kernel_rfl) rfl (okWide_bool_mk Tryz.underlying4 _))⟩
  exact trodAll_cons_mk (WideElems.Trod_stays (by kernel_rfl) (by kernel_rfl) (of_decide_eq_true (by kernel_rfl)) h0 (fun x hx => hb.same (hlt x (by simp [hx]))) (fun x hx => hsp x (by simp [hx])))
    (trodAll_cons_mk (WideElems.Trod_stays (by kernel_rfl) (by kernel_rfl) (of_decide_eq_true (by kernel_rfl)) h1 (fun x hx => hb.same (hlt x (by simp [hx]))) (fun x hx => hsp x (by simp [hx]))) trodAll_mk0)

/-! ### the witness -/
def tabCells : DataW Unit → Array Value
  | .agg l => (l.map fun d => match d with
    | .lit (.int k z) => Value.int k z
    | _ => Value.bool false).toArray
  | _ => #[]
def layOne (g : Nat) (d : DataW Unit) (h : Array Obj) : Array Obj := h.modify g fun
  | .cells _ t frozen => .cells (tabCells d) t frozen
  | o => o
noncomputable def laidWorld (os : Os) : World :=
  { World.doorLaid Tryz.prog 2000 os with heap := layOne 3 Rows.laid_unicode_utf8_first (World.doorLaid Tryz.prog 2000 os).heap }
def arg0 : Value := .agg #[.int .i64 0, .slice none 0 0, .slice none 0 0]
def arg1 : Value := .slice none 0 0
theorem laid_met (os : Os) : laidMet Tryz.prog Rows.cnfTidyMeansUptoRow.laid ((laidWorld os).forCall (fun _ _ => 0) ⟨#[], #[arg0, arg1], []⟩).memory :=
  laidMet_of_run' 8 (by kernel_rfl) (by kernel_rfl)
theorem reads (os : Os) {H : Type} (enc : TypeId × Value → H) : ∃ places, DataW.whole enc Tryz.prog ((laidWorld os).forCall (fun _ _ => 0) ⟨#[], #[arg0, arg1], []⟩).memory Tryz.f10.params.toList Rows.cnfTidyMeansSpec.vars false #[arg0, arg1].toList 8 = some ([.agg [.lit (.int .i64 0), .nil, .nil], .nil], [], places) :=
  ⟨[], by kernel_rfl⟩

set_option maxRecDepth 100000 in
theorem liftedUpto (os : Os) (started : os.Started) (H : Type) (enc : TypeId × Value → H) (F : Stop.Interp) :
    ReturnsInHanded {} Tryz.checked os 10 .any ((Rows.OpenSpec.upto Rows.cnfTidyMeansSpec).preRow enc Tryz.prog Tryz.f10 Rows.cnfTidyMeansUptoRow.domain false Rows.cnfTidyMeansUptoRow.laid) (((Rows.OpenSpec.upto Rows.cnfTidyMeansSpec).at F).post enc Tryz.prog Tryz.f10 false true false false) := by
  obtain ⟨places, hx⟩ := reads os enc
  refine returnsInHanded_of_row (C := Tryz.checked) (s := Rows.OpenSpec.upto Rows.cnfTidyMeansSpec) own started (by kernel_rfl) Tryz.func10
    (witness_row_atRef (enc := enc) (C := Tryz.checked) false (laidWorld os) #[arg0, arg1] rfl (by kernel_rfl) (by kernel_rfl) (by kernel_rfl)
      (OpenSpec.preRow_of_cond 8 hx (by kernel_rfl) (fun k hk => by cases hk; kernel_rfl) (by kernel_rfl) (laid_met os))) ?_
  intro W base args ds gs before hval hW _ hcond _ hL _ _
  obtain ⟨p, q, _, hV, _⟩ := id hW
  obtain ⟨rfl, rfl⟩ := trodVars_none hV
  have hb : Rows.uptoBulkAll ds ≤ 1048576 := by
    have := of_decide_eq_true (hcond _ rfl)
    simpa using this
  exact contract H enc W base args ds [] before hval hW hL hb

end Go.Proofs.YtnadmnhkfdkafaaGreatDoor.tidyMeans
