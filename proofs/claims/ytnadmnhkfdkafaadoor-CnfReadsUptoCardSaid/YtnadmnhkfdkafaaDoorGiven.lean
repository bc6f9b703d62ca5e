/- Contracts of the law's look at new memory: given.take, given.apart, apart. -/
import Derived.Test.YtnadmnhkfdkafaaDoorRooms
import Derived.Test.YtnadmnhkfdkafaaDoorTidy
namespace Go.Proofs.YtnadmnhkfdkafaaDoor
open Go.RowKit
set_option linter.unusedVariables false
set_option linter.unusedSimpArgs false

/-- own rows of ints, no two in one block -/
def OwnsI (w : World) (B : Nat) (vs : List Value) (R : List (List Int)) : Prop := All2 (fun u l => OwnI w B 3 u l) vs R

/-- a row of a clause written full with one number -/
theorem fill_row {w : World} {B g cap k m : Nat} {z : Int} {xs : List Int} (h : w.ownsRow B 3 1 (.slice (some ⟨g, 0, none⟩) m cap) m ((List.replicate k z ++ xs.drop k).map (Value.int .i64))) (hk : k < xs.length) :
    (w.setCell ⟨g, k, none⟩ (.int .i64 z)).ownsRow B 3 1 (.slice (some ⟨g, 0, none⟩) m cap) m ((List.replicate (k + 1) z ++ xs.drop (k + 1)).map (Value.int .i64)) := by
  have h1 := own_set h k (.int .i64 z)
  have e : ((List.replicate k z ++ xs.drop k).map (Value.int .i64)).set k (.int .i64 z) = (List.replicate (k + 1) z ++ xs.drop (k + 1)).map (Value.int .i64) := by
    rw [← List.map_set, List.set_append_right _ _ (by simp), List.length_replicate, Nat.sub_self, List.drop_eq_getElem_cons hk, List.set_cons_zero, List.replicate_succ']
    simp
  rwa [e] at h1

/-- of the old blocks those alone may have turned of which P speaks -/
structure Kept (w w' : World) (P : Nat → Prop) : Prop where
  os : w'.os = w.os
  tape : w'.tape = w.tape
  output : w'.output = w.output
  size : w.heap.size ≤ w'.heap.size
  block : ∀ k, k < w.heap.size → ¬ P k → w'.heap[k]? = w.heap[k]?
theorem Kept.refl (w : World) (P : Nat → Prop) : Kept w w P := ⟨rfl, rfl, rfl, Nat.le_refl _, fun _ _ _ => rfl⟩
theorem Kept.trans {w w' w'' : World} {P : Nat → Prop} (h : Kept w w' P) (h' : Kept w' w'' P) : Kept w w'' P :=
  ⟨h'.os.trans h.os, h'.tape.trans h.tape, h'.output.trans h.output, Nat.le_trans h.size h'.size, fun k hk hp => (h'.block k (Nat.lt_of_lt_of_le hk h.size) hp).trans (h.block k hk hp)⟩
theorem Kept.mono {w w' : World} {P Q : Nat → Prop} (h : Kept w w' P) (hQ : ∀ k, k < w.heap.size → P k → Q k) : Kept w w' Q :=
  ⟨h.os, h.tape, h.output, h.size, fun k hk hq => h.block k hk (fun hp => hq (hQ k hk hp))⟩
theorem Kept.setCell {w w' : World} {P : Nat → Prop} (h : Kept w w' P) {p : Addr} (hp : P p.block) (u : Value) : Kept w (w'.setCell p u) P :=
  ⟨h.os, h.tape, h.output, by simpa using h.size, fun k hk hq => (Below.heap_setCell w' p u k (fun e => hq (by rw [e]; exact hp))).trans (h.block k hk hq)⟩
theorem Kept.grown {w w' w'' : World} {P : Nat → Prop} {row : Option Nat} (h : Kept w w' P) (hg : w'.grownBy w'' row) (hr : ∀ k, row = some k → k < w.heap.size → P k) : Kept w w'' P :=
  ⟨hg.os.trans h.os, hg.tape.trans h.tape, hg.output.trans h.output, Nat.le_trans h.size hg.size, fun k hk hq => (hg.block k (Nat.lt_of_lt_of_le hk h.size) (fun e => hq (hr k e.symm hk))).trans (h.block k hk hq)⟩
theorem Kept.own {w w' : World} {P : Nat → Prop} (h : Kept w w' P) {B e s n : Nat} {v : Value} {xs : List Value} (ho : w.ownsRow B e s v n xs) (hp : ∀ k, v.ownBlock = some k → ¬ P k) : w'.ownsRow B e s v n xs := by
  refine ⟨ho.1, ?_⟩
  rcases ho.2 with h1 | ⟨g, cap, cur, hv, hg, hh, hr⟩
  · exact .inl h1
  · refine .inr ⟨g, cap, cur, hv, hg, ?_, hr⟩
    have hlt : g < w.heap.size := (Array.getElem?_eq_some_iff.1 hh).1
    exact (h.block g hlt (hp g (by rw [hv]; rfl))).trans hh
theorem Kept.blk {w w' : World} {P : Nat → Prop} (h : Kept w w' P) {g t : Nat} {cs : Array Value} (hb : Blk w g t cs) (hp : ¬ P g) : Blk w' g t cs := (h.block g hb.lt hp).trans hb

set_option maxHeartbeats 2000000 in
set_option maxRecDepth 100000 in
/-- take: the list is written full with its mark, and told -/
theorem take_calls (B Bv b : Nat) (vl vm v : Value) (vs : List Value) (xs : List Int) (w : World) (hb : Blk w b 83 #[vl, vm]) (hbB : B ≤ b) (hl : w.ownsRow B 23 1 vl vs.length vs) (hv : OwnI w Bv 3 v xs)
    (hs : vs.length ≤ 1048577) (hx : xs.length ≤ 1099511627776) :
    Calls Tryd.prog 42 #[.pointer (some ⟨b, 0, none⟩), v] w fun e w' => e = .returned (.tuple #[]) ∧ ∃ vl', Blk w' b 83 #[vl', vm] ∧ w'.ownsRow B 23 1 vl' (vs.length + 1) (vs ++ [v]) ∧ OwnI w' Bv 3 v (List.replicate xs.length (-9000 - (vs.length : Int))) ∧
      Kept w w' (fun k => k = b ∨ v.ownBlock = some k ∨ vl.ownBlock = some k) := by
  have HB := Lib.hid hb
  have HL := Lib.hid hl
  obtain ⟨A, c, rfl, hc1, hc2, _⟩ := CellsAt.of_own hv
  have HV := Lib.hid hv
  clear hb hl hv
  obtain ⟨Al, cl, rfl, hcl1, hcl2, _⟩ := CellsAt.of_own HL.out
  have k0 : w.cell? ⟨b, 0, none⟩ = some (.slice Al vs.length cl) := by have := HB.out.cell 0; simpa using this
  have e1 : IntKind.i64.wrap (-9000 - (vs.length : Int)) = -9000 - (vs.length : Int) := IntWalk.i64_in _ (by omega)
  go_enter Tryd.func42, Tryd.ntmps42
  obtain ⟨z, hz⟩ : ∃ z : Int, z = -9000 - (vs.length : Int) := ⟨_, rfl⟩
  rw [← hz] at e1 ⊢
  have Hz := Lib.hid hz
  go_wp2_with fail
  rw [← Hz.out]
  clear hz
  go_loopw [5] (fun i wr => ∃ k : Nat, k ≤ xs.length ∧ i = .int .i64 k ∧ Hid (wr.ownsRow Bv 3 1 (.slice A xs.length c) xs.length ((List.replicate k z ++ xs.drop k).map (Value.int .i64))) ∧ Hid (w.grownBy wr (Value.slice A xs.length c).ownBlock)) (fun i _ => (xs.length - intOf i).toNat)
  case atStart => exact ⟨0, Nat.zero_le _, rfl, by have h := HV.out; unfold OwnI at h; simpa [Hid] using h, ⟨rfl, rfl, rfl, Nat.le_refl _, fun _ _ _ => rfl⟩⟩
  case round =>
    obtain ⟨k, hk, rfl, hown, hg⟩ := hrel
    obtain ⟨wo, rfl⟩ : ∃ wo : World, wo = wr := ⟨_, rfl⟩
    by_cases hlt : k < xs.length
    · obtain ⟨g, cap, he, _, _⟩ := hown.out.form (by omega)
      injection he with he _ _
      subst he
      have hlz : (k : Int) < xs.length := by omega
      obtain ⟨y, hy⟩ : ∃ y, ((List.replicate k z ++ xs.drop k).map (Value.int .i64))[k]? = some y := ⟨_, List.getElem?_eq_getElem (by simp; omega)⟩
      have hc := own_at hown.out hy
      have hf := hown.out.frozenAt k
      have H1 := Lib.hid (fill_row hown.out hlt)
      have H2 := Lib.hid (show w.grownBy (wo.setCell ⟨g, k, none⟩ (.int .i64 z)) (some g) from ⟨hg.out.os, hg.out.tape, hg.out.output, by simpa using hg.out.size, fun j hj hne => (Below.heap_setCell wo ⟨g, k, none⟩ _ j (fun e => hne (by rw [e]))).trans (hg.out.block j hj hne)⟩)
      clear hy
      go_wp2_with fail
      exact ⟨⟨k + 1, by omega, by go_num, H1.out, H2.out⟩, by simp [intOf]; omega⟩
    · have hkk : k = xs.length := by omega
      subst hkk
      have Fv := Lib.hid (show OwnI wo Bv 3 (.slice A xs.length c) (List.replicate xs.length z) by have h := hown.out; rw [List.drop_length, List.append_nil] at h; unfold OwnI; rw [List.length_replicate]; exact h)
      have Fb := Lib.hid (Blk.grown_row HB.out HV.out (by decide) hg.out)
      have Fl := Lib.hid (own_grown_row HL.out HV.out (by decide) hg.out)
      have j0 : wo.cell? ⟨b, 0, none⟩ = some (.slice Al vs.length cl) := by have := Fb.out.cell 0; simpa using this
      have hBw : B ≤ wo.heap.size := Nat.le_trans hbB (Nat.le_of_lt Fb.out.lt)
      have hsz := hg.out.size
      go_wp2_with ((
        at_builtin
        refine appS (w0 := wo) (W := wo) B rfl (.tmp 26) (.tmp 28) 22 23 (.slice none 0 0) 1 24 1 rfl Tryd.underlying22 info_ints rfl (by decide) (.slice Al vs.length cl) vs.length vs [.slice A xs.length c] rfl rfl ?hx (by simp [Value.oneCell']) Fl.out (Below.refl _ _) hBw (by omega) (by omega) ?_
        case hx => simp [Act.eval]
        intro v5 w5 own5 hb5 hg5
        have G1 := Lib.hid own5
        have G2 := Lib.hid (own_grown_row Fv.out Fl.out (by decide) hg5)
        have G3 := Lib.hid (Blk.grown_row Fb.out Fl.out (by decide) hg5)
        have G4 := Lib.hid (show Kept w w5 (fun k => k = b ∨ (Value.slice A xs.length c).ownBlock = some k ∨ (Value.slice Al vs.length cl).ownBlock = some k) from
          ((Kept.refl w _).grown hg.out (fun k hk _ => .inr (.inl hk))).grown hg5 (fun k hk _ => .inr (.inr hk)))
        have i0 : w5.cell? ⟨b, 0, none⟩ = some (.slice Al vs.length cl) := by have := G3.out.cell 0; simpa using this
        have fz : ∀ i, w5.frozen? ⟨b, i, none⟩ = false := fun i => G3.out.frozen i
        obtain ⟨g5, c5, rfl, _, _⟩ := own5.form (by simp)
        clear own5 hb5 hg5))
      go_end0
      refine ⟨rfl, .slice (some ⟨g5, 0, none⟩) (vs.length + 1) c5, ?_, own_setCell_blk G1.out G3.out (by decide) 0 _, own_setCell_blk G2.out G3.out (by decide) 0 _, G4.out.setCell (p := ⟨b, 0, none⟩) (.inl rfl) _⟩
      have h := G3.out.set_ 0 (.slice (some ⟨g5, 0, none⟩) (vs.length + 1) c5); simpa using h

end Go.Proofs.YtnadmnhkfdkafaaDoor
