/- Contracts of the law's rooms: newRoom, room.in, room.kept. -/
import Derived.Test.YtnadmnhkfdkafaaDoorSorted
import Derived.Test.YtnadmnhkfdkafaaDoorBlk
import Derived.OwnWalk
namespace Go.Proofs.YtnadmnhkfdkafaaDoor
open Go.RowKit
set_option linter.unusedVariables false
set_option linter.unusedSimpArgs false

def marks3 : List Int := [-7001, -7002, -7003]
def RoomAt (w : World) (v : Value) (l : List Int) : Prop :=
  ∃ ad cap, v = .agg #[.slice (some ad) (l.length + 3) cap, .int .i64 l.length] ∧ l.length + 3 ≤ cap ∧ cap ≤ 9223372036854775807 ∧ IntsAt w (some ad) (l ++ marks3)
theorem RoomAt.below {w w' : World} {v : Value} {l : List Int} (h : RoomAt w v l) (hb : Below w.heap.size w w') : RoomAt w' v l := by
  obtain ⟨ad, cap, e, h1, h2, h3⟩ := h
  exact ⟨ad, cap, e, h1, h2, IntsAt.below h3 hb⟩

/-- a room of the call's own: its block, its capacity, its list -/
def RoomT (w : World) (B : Nat) (t : Nat × Nat × List Int) : Prop :=
  w.ownsRow B 3 1 (.slice (some ⟨t.1, 0, none⟩) (t.2.2.length + 3) t.2.1) (t.2.2.length + 3) ((t.2.2 ++ marks3).map (Value.int .i64))
def roomV (t : Nat × Nat × List Int) : Value := .agg #[.slice (some ⟨t.1, 0, none⟩) (t.2.2.length + 3) t.2.1, .int .i64 t.2.2.length]
theorem RoomT.at_ {w : World} {B : Nat} {t : Nat × Nat × List Int} (h : RoomT w B t) : RoomAt w (roomV t) t.2.2 := by
  obtain ⟨_, _, e4, hc1, hc2, _⟩ := CellsAt.of_own h
  injection e4 with _ _ e4
  subst e4
  exact ⟨⟨t.1, 0, none⟩, t.2.1, rfl, hc1, hc2, .inr ⟨_, rfl, World.ownsRow.cells h (g := t.1) rfl⟩⟩
theorem RoomT.below {w w' : World} {B : Nat} {t : Nat × Nat × List Int} (h : RoomT w B t) (hb : Below w.heap.size w w') : RoomT w' B t := own_below h hb

theorem CellsAt.of_new (w : World) (t : Nat) (vs : List Value) : CellsAt (w.alloc (.cells vs.toArray t)) (some ⟨w.heap.size, 0, none⟩) vs := by
  refine .inr ⟨_, rfl, fun j u hu => ?_⟩
  have h := (Blk.new w t vs.toArray).cell j
  have e : (⟨w.heap.size, 0, none⟩ : Addr).add j = ⟨w.heap.size, j, none⟩ := by unfold Addr.add; split <;> simp_all
  rw [e, h]
  simpa using hu

set_option maxHeartbeats 2000000 in
set_option maxRecDepth 100000 in
theorem newRoom_calls (A : Option Addr) (c : Nat) (xs : List Int) (w : World) (hx : IntsAt w A xs) (hl : xs.length ≤ 1048576) :
    Calls Tryd.prog 23 #[.slice A xs.length c] w fun e w' => ∃ g cap, e = .returned (roomV (g, cap, xs)) ∧ RoomT w' w.heap.size (g, cap, xs) ∧ Below w.heap.size w w' := by
  have HX := Lib.hid hx
  clear hx
  go_enter Tryd.func23, Tryd.ntmps23
  have HB0 := Lib.hid (Blk.new w 33 #[.slice none 0 0, .int .i64 0])
  have Hb0 := Lib.hid ((Below.refl w.heap.size w).alloc (Nat.le_refl _) (.cells #[.slice none 0 0, .int .i64 0] 33))
  have Own0 := Lib.hid (show (((w.alloc (.cells #[.slice none 0 0, .int .i64 0] 33)).alloc (.cells #[] 3)).ownsRow w.heap.size 3 1 (.slice (some ⟨w.heap.size + 1, 0, none⟩) 0 0) 0 []) by
    have h := World.ownsRow_lit (w.alloc (.cells #[.slice none 0 0, .int .i64 0] 33)) (e := 3) (size := 1) (base := w.heap.size) #[] 0 (by simp) (by simp) (by simp)
    simpa using h)
  go_wp2_with (first
   | (at_builtin
      refine appN (w0 := w) w.heap.size rfl (.tmp 4) (.tmp 5) 23 3 (.int .i64 0) 8 rfl Tryd.underlying23 info_int rfl (.slice (some ⟨w.heap.size + 1, 0, none⟩) 0 0) 0 [] (xs.map (Value.int .i64)) A c rfl (by simp [Act.eval]) (by simp [Value.oneCell']) (by exact Own0.out) ?hR ?hB ?hS (by simp; omega) (by simp; omega) ?_
      case hR => exact IntsAt.below HX.out (Hb0.out.alloc (by simp) _)
      case hB => exact Hb0.out.alloc (by simp) _
      case hS => simp; omega
      intro v1 w1 own1 hb1 hg1 hat1
      have Own1 := Lib.hid (show w1.ownsRow w.heap.size 3 1 v1 xs.length (xs.map (Value.int .i64)) by simpa using own1)
      have HB1 := Lib.hid ((HB0.out.alloc _).grown_row Own0.out (by decide) hg1)
      have Hb1 := Lib.hid hb1
      clear own1 hb1 hg1 hat1)
   | (at_builtin
      refine appN (w0 := w) w.heap.size rfl (.tmp 7) (.tmp 8) 23 3 (.int .i64 0) 8 rfl Tryd.underlying23 info_int rfl v1 xs.length (xs.map (Value.int .i64)) (marks3.map (Value.int .i64)) (some ⟨w1.heap.size, 0, none⟩) 3 rfl rfl (by simp [Value.oneCell', marks3]) ?hO ?hR ?hB ?hS (by simp [marks3]; omega) (by simp [marks3]; omega) ?_
      case hO => exact World.ownsRow.alloc Own1.out _
      case hR =>
        exact CellsAt.of_new w1 3 (marks3.map (Value.int .i64))
      case hB => exact Hb1.out.alloc Hb1.out.size _
      case hS => have := Hb1.out.size; simp; omega
      intro v2 w2 own2 hb2 hg2 hat2
      have Own2 := Lib.hid (show w2.ownsRow w.heap.size 3 1 v2 (xs.length + 3) ((xs ++ marks3).map (Value.int .i64)) by simpa [marks3] using own2)
      have HB2 := Lib.hid ((HB1.out.alloc _).grown_row (World.ownsRow.alloc Own1.out _) (by decide) hg2)
      have Hb2 := Lib.hid hb2
      have hd0 : w2.cell? ⟨w.heap.size, 0, none⟩ = some (.slice none 0 0) := by have := HB2.out.cell 0; simpa using this
      have hd1 : w2.cell? ⟨w.heap.size, 1, none⟩ = some (.int .i64 0) := by have := HB2.out.cell 1; simpa using this
      have hf : ∀ i, w2.frozen? ⟨w.heap.size, i, none⟩ = false := fun i => HB2.out.frozen i
      obtain ⟨g, cap, rfl, hgB, hgs⟩ := own2.form (by simp [marks3])
      clear own2 hb2 hg2 hat2))
  have Own3 := Lib.hid (own_setCell_blk Own2.out HB2.out (by decide) 0 (.slice (some ⟨g, 0, none⟩) (xs.length + 3) cap))
  have HB3 := Lib.hid (HB2.out.set_ 0 (.slice (some ⟨g, 0, none⟩) (xs.length + 3) cap))
  have Own4 := Lib.hid (own_setCell_blk Own3.out HB3.out (by decide) 1 (.int .i64 xs.length))
  have HB4 := Lib.hid (HB3.out.set_ 1 (.int .i64 xs.length))
  have Hb4 := Lib.hid ((Hb2.out.setCell (p := ⟨w.heap.size, 0, none⟩) (Nat.le_refl _) (.slice (some ⟨g, 0, none⟩) (xs.length + 3) cap)).setCell (p := ⟨w.heap.size, 1, none⟩) (Nat.le_refl _) (.int .i64 xs.length))
  exact bodyPost_ret (v := .agg #[.slice (some ⟨g, 0, none⟩) (xs.length + 3) cap, .int .i64 xs.length]) (by simp [results, Tryd.results23, go_sem, hd0, hd1, marks3]) rfl ⟨g, cap, rfl, Own4.out, Hb4.out⟩

set_option maxHeartbeats 1000000 in
theorem roomIn_calls (v : Value) (l : List Int) (w : World) (h : RoomAt w v l) (hl : l.length ≤ 1048576) :
    Calls Tryd.prog 26 #[v] w fun e w' => ∃ ad cap, v = .agg #[.slice (some ad) (l.length + 3) cap, .int .i64 l.length] ∧ e = .returned (.slice (some ad) l.length cap) ∧ l.length + 3 ≤ cap ∧ cap ≤ 9223372036854775807 ∧ IntsAt w' (some ad) (l ++ marks3) ∧ Below w.heap.size w w' := by
  obtain ⟨ad, cap, rfl, h1, h2, h3⟩ := h
  have HI := Lib.hid h3
  have hlz : (l.length : Int) ≤ cap := by omega
  clear h3
  go_enter Tryd.func26, Tryd.ntmps26
  go_wp2_with fail
  go_ret
  have hb := (Below.refl w.heap.size w).alloc (Nat.le_refl _) (.cells #[.slice (some ad) (l.length + 3) cap, .int .i64 l.length] 33)
  exact ⟨ad, cap, rfl, rfl, h1, h2, IntsAt.below HI.out hb, hb⟩

theorem roomInT_calls (w : World) (B : Nat) (t : Nat × Nat × List Int) (h : RoomT w B t) (hl : t.2.2.length ≤ 1048576) :
    Calls Tryd.prog 26 #[.agg #[.slice (some ⟨t.1, 0, none⟩) (t.2.2.length + 3) t.2.1, .int .i64 t.2.2.length]] w fun e w' => e = .returned (.slice (some ⟨t.1, 0, none⟩) t.2.2.length t.2.1) ∧ Below w.heap.size w w' := by
  refine (roomIn_calls _ _ w h.at_ hl).mono ?_
  rintro e w' ⟨ad, cap, he, rfl, _, _, _, hb⟩
  unfold roomV at he
  injection he with he
  simp at he
  obtain ⟨rfl, rfl⟩ := he
  exact ⟨rfl, hb⟩

theorem marks_at {w : World} {ad : Addr} {l : List Int} (h : IntsAt w (some ad) (l ++ marks3)) :
    w.cell? (ad.add l.length) = some (.int .i64 (-7001)) ∧ w.cell? (ad.add (l.length + 1)) = some (.int .i64 (-7002)) ∧ w.cell? (ad.add (l.length + 2)) = some (.int .i64 (-7003)) := by
  have key : ∀ j, j < 3 → w.cell? (ad.add (l.length + j)) = some (.int .i64 (marks3.getD j 0)) := by
    intro j hj
    obtain ⟨ad', x, e, hc, hx⟩ := h.get (k := l.length + j) (by simp [marks3]; omega)
    injection e with e
    subst e
    rw [hc]
    have := hx.out
    rw [List.getElem?_append_right (by omega)] at this
    rw [List.getD_eq_getElem?_getD]
    rw [show l.length + j - l.length = j by omega] at this
    rw [this]; rfl
  exact ⟨key 0 (by omega), key 1 (by omega), key 2 (by omega)⟩

set_option maxHeartbeats 2000000 in
set_option maxRecDepth 100000 in
theorem roomKept_calls (v : Value) (A : Option Addr) (c : Nat) (l : List Int) (w : World) (h : RoomAt w v l) (hx : IntsAt w A l) (hl : l.length ≤ 1048576) :
    Calls Tryd.prog 41 #[v, .slice A l.length c] w fun e w' => e = .returned (.bool true) ∧ Below w.heap.size w w' := by
  obtain ⟨ad, cap, rfl, h1, h2, h3⟩ := h
  have hb := (Below.refl w.heap.size w).alloc (Nat.le_refl _) (.cells #[.slice (some ad) (l.length + 3) cap, .int .i64 l.length] 33)
  have Hb := Lib.hid hb
  have HF := Lib.hid (IntsAt.below h3 hb)
  have HX := Lib.hid (IntsAt.below hx hb)
  obtain ⟨m0, m1, m2⟩ := marks_at HF.out
  have a1 : ad.add (l.length + 1) = ⟨ad.block, ad.off + (l.length + 1), none⟩ := by unfold Addr.add; simp
  have a2 : ad.add (l.length + 2) = ⟨ad.block, ad.off + (l.length + 2), none⟩ := by unfold Addr.add; simp
  rw [a1] at m1
  rw [a2] at m2
  have n0 : (l.length : Int) < ((l.length + 3 : Nat) : Int) := by omega
  have n1 : ((l.length + 1 : Nat) : Int) < ((l.length + 3 : Nat) : Int) := by omega
  have n2 : ((l.length + 2 : Nat) : Int) < ((l.length + 3 : Nat) : Int) := by omega
  have e1 : IntKind.i64.wrap ((l.length : Int) + 1) = ((l.length + 1 : Nat) : Int) := by rw [IntWalk.i64_in _ (by omega)]; omega
  have e2 : IntKind.i64.wrap ((l.length : Int) + 2) = ((l.length + 2 : Nat) : Int) := by rw [IntWalk.i64_in _ (by omega)]; omega
  clear h3 hx hb
  go_enter Tryd.func41, Tryd.ntmps41
  go_wp2_with fail
  go_loopw [5] (fun i wr => ∃ (k q : Nat), k ≤ l.length ∧ i = .int .i64 k ∧ wr = (w.alloc (.cells #[.slice (some ad) (l.length + 3) cap, .int .i64 l.length] 33)).drewN q) (fun i _ => (l.length - intOf i).toNat)
  case atStart => exact ⟨0, 0, Nat.zero_le _, rfl, rfl⟩
  case round =>
    obtain ⟨k, q, hk, rfl, rfl⟩ := hrel
    by_cases hlt : k < l.length
    · obtain ⟨ad2, x, rfl, hcx, Hx⟩ := HX.out.get hlt
      obtain ⟨ad1, y, e, hcy, Hy⟩ := HF.out.get (k := k) (by simp; omega)
      injection e with e
      subst e
      have hxy : y = x := by
        have h1 := Hy.out
        rw [List.getElem?_append_left hlt, Hx.out] at h1
        injection h1 with h1; exact h1.symm
      subst hxy
      have hlz : (k : Int) < l.length := by omega
      have hlz3 : (k : Int) < ((l.length + 3 : Nat) : Int) := by omega
      go_wp2_with fail
      go_quiet (fail)
      go_wp2_with fail
      exact ⟨⟨k + 1, _, by omega, by go_num, by first | rfl | (simp only [World.drewN_drewN]; rfl)⟩, by simp [intOf]; omega⟩
    · go_wp2_with fail
      go_ret
      exact ⟨rfl, by exact below_drewN Hb.out _⟩

end Go.Proofs.YtnadmnhkfdkafaaDoor
