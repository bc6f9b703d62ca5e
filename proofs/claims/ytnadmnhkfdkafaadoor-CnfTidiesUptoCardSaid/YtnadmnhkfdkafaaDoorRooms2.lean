/- Contracts of the law's rooms: rooms.in, rooms.kept. -/
import Derived.Test.YtnadmnhkfdkafaaDoorRooms
import Derived.Lib.QuietBelow
import Derived.Test.YtnadmnhkfdkafaaDoorShow
namespace Go.Proofs.YtnadmnhkfdkafaaDoor
open Go.RowKit
set_option linter.unusedVariables false
set_option linter.unusedSimpArgs false

theorem CellsAt.left {w : World} {A : Option Addr} {xs ys : List Value} (h : CellsAt w A (xs ++ ys)) : CellsAt w A xs := by
  rcases h with h | ⟨ad, e, hc⟩
  · exact .inl (List.append_eq_nil_iff.1 h).1
  · exact .inr ⟨ad, e, fun j u hu => hc j u (by rw [List.getElem?_append_left (List.getElem?_eq_some_iff.1 hu).1]; exact hu)⟩
theorem IntsAt.left {w : World} {A : Option Addr} {xs ys : List Int} (h : IntsAt w A (xs ++ ys)) : IntsAt w A xs := by
  unfold IntsAt at *
  rw [List.map_append] at h
  exact h.left
theorem rows_of_rooms {w : World} {af : Option Addr} {ts : List (Nat × Nat × List Int)} (h : ∀ t ∈ ts, RoomAt w (roomV t) t.2.2) (hc : CellsAt w af (ts.map rOf)) : RowsAt w af (ts.map (·.2.2)) := by
  refine ⟨ts.map rOf, hc, by simp, fun k x y hx hy => ?_⟩
  rw [List.getElem?_map, Option.map_eq_some_iff] at hx hy
  obtain ⟨a, ha, rfl⟩ := hx
  obtain ⟨b, hb, rfl⟩ := hy
  rw [ha] at hb
  injection hb with hb
  subst hb
  obtain ⟨ad, cap, e, h1, h2, h3⟩ := h a (List.mem_of_getElem? ha)
  unfold roomV at e
  simp at e
  obtain ⟨rfl, rfl⟩ := e
  exact ⟨_, _, rfl, by omega, h2, h3.left⟩

set_option maxHeartbeats 1000000 in
theorem roomsIn_calls (v : Value) (xss : List (List Int)) (w : World) (h : RoomsAt w v xss) (hl : xss.length ≤ 1048576) :
    Calls Tryd.prog 25 #[v] w fun e w' => ∃ af cf, e = .returned (.slice (some af) xss.length cf) ∧ xss.length ≤ cf ∧ cf ≤ 9223372036854775807 ∧ RowsAt w' (some af) xss ∧ Below w.heap.size w w' := by
  obtain ⟨ts, ae, ce, af, cf, p1, p2, rfl, h1, h2, h3, h4, h5, h6, h7, h8, h9, h10⟩ := h
  have hr := Lib.hid (rows_of_rooms h2 h8.left)
  rw [h1] at hr
  have hlz : (xss.length : Int) ≤ cf := by omega
  clear h1 h2 h5 h8 h9 h10
  go_enter Tryd.func25, Tryd.ntmps25
  go_wp2_with fail
  go_ret
  have hb := (Below.refl w.heap.size w).alloc (Nat.le_refl _) (.cells #[.slice ae xss.length ce, .slice (some af) (xss.length + 2) cf] 31)
  exact ⟨af, cf, rfl, by omega, h7, hr.out.below hb, hb⟩

set_option maxHeartbeats 4000000 in
set_option maxRecDepth 100000 in
theorem roomsKept_calls (v : Value) (A : Option Addr) (c : Nat) (xss : List (List Int)) (w : World) (h : RoomsAt w v xss) (hx : RowsAt w A xss) (hl : xss.length ≤ 1048576) (hxl : ∀ l ∈ xss, l.length ≤ 1048576) :
    Calls Tryd.prog 40 #[v, .slice A xss.length c] w fun e w' => e = .returned (.bool true) ∧ Below w.heap.size w w' := by
  have HR := Lib.hid h
  have HX := Lib.hid hx
  have HL := Lib.hid hxl
  obtain ⟨ts, ae, ce, af, cf, p1, p2, rfl, h1, h2, h3, h4, h5, h6, h7, h8, h9, h10⟩ := h
  have hb := (Below.refl w.heap.size w).alloc (Nat.le_refl _) (.cells #[.slice ae xss.length ce, .slice (some af) (xss.length + 2) cf] 31)
  have Hb := Lib.hid hb
  have htl : ts.length = xss.length := by rw [← h1]; simp
  have m0 : (w.alloc (.cells #[.slice ae xss.length ce, .slice (some af) (xss.length + 2) cf] 31)).cell? (af.add xss.length) = some (.slice (some ⟨p1, 0, none⟩) 1 1) := by
    rcases h8.below hb with h | ⟨ad, e, hc⟩
    · simp at h
    · injection e with e; subst e
      exact hc _ _ (by rw [List.getElem?_append_right (by simp [htl])]; simp [htl])
  have m1 : (w.alloc (.cells #[.slice ae xss.length ce, .slice (some af) (xss.length + 2) cf] 31)).cell? (af.add (xss.length + 1)) = some (.slice (some ⟨p2, 0, none⟩) 1 1) := by
    rcases h8.below hb with h | ⟨ad, e, hc⟩
    · simp at h
    · injection e with e; subst e
      exact hc _ _ (by rw [List.getElem?_append_right (by simp [htl])]; simp [htl])
  have a1 : af.add (xss.length + 1) = ⟨af.block, af.off + (xss.length + 1), none⟩ := by unfold Addr.add; simp
  rw [a1] at m1
  have q1 := cell_kept hb h9
  have q2 := cell_kept hb h10
  have n0 : (xss.length : Int) < ((xss.length + 2 : Nat) : Int) := by omega
  have n1 : ((xss.length + 1 : Nat) : Int) < ((xss.length + 2 : Nat) : Int) := by omega
  have e1 : IntKind.i64.wrap ((xss.length : Int) + 1) = ((xss.length + 1 : Nat) : Int) := by rw [IntWalk.i64_in _ (by omega)]; omega
  have HE := Lib.hid (h5.below hb)
  have HF := Lib.hid (h8.below hb)
  have H1 := Lib.hid h1
  have H2 := Lib.hid (show ∀ t ∈ ts, RoomAt _ (roomV t) t.2.2 from fun t ht => (h2 t ht).below hb)
  have HXb := Lib.hid (hx.below hb)
  clear hx hxl hb h1 h2 h5 h8 h9 h10 a1
  go_enter Tryd.func40, Tryd.ntmps40
  go_wp2_with fail
  go_loopw [6] (fun i wr => ∃ k : Nat, k ≤ xss.length ∧ i = .int .i64 k ∧ Hid (Below (w.alloc (.cells #[.slice ae xss.length ce, .slice (some af) (xss.length + 2) cf] 31)).heap.size (w.alloc (.cells #[.slice ae xss.length ce, .slice (some af) (xss.length + 2) cf] 31)) wr)) (fun i _ => (xss.length - intOf i).toNat)
  case atStart => exact ⟨0, Nat.zero_le _, rfl, Below.refl _ _⟩
  case round =>
    obtain ⟨k, hk, rfl, hbr⟩ := hrel
    obtain ⟨wo, rfl⟩ : ∃ wo : World, wo = wr := ⟨_, rfl⟩
    by_cases hlt : k < xss.length
    · have htk : k < ts.length := by omega
      obtain ⟨ad, A1, c1, l, rfl, hcell, g1, g2, Hl, Hi⟩ := (HXb.out.below hbr.out).get hlt
      have hl1 : l.length ≤ 1048576 := HL.out l (List.mem_of_getElem? Hl.out)
      have htt : ts[k]? = some ts[k] := List.getElem?_eq_getElem htk
      have htl2 : ts[k].2.2 = l := by
        have h := Hl.out
        rw [← H1.out, List.getElem?_map, htt] at h
        simpa using h
      have hrk := (H2.out _ (List.getElem_mem htk)).below hbr.out
      generalize ts[k] = t at htt htl2 hrk
      obtain ⟨gk, ck, lk⟩ := t
      simp only at htl2
      subst htl2
      obtain ⟨e0, e1'⟩ := eOf_get htt
      simp only at e0 e1'
      have hlz : (k : Int) < xss.length := by omega
      have hlz2 : (k : Int) < ((xss.length + 2 : Nat) : Int) := by omega
      have hlz3 : (k : Int) < (xss.length : Int) + 2 := by omega
      obtain ⟨ae', rfl, hcE⟩ : ∃ ad, ae = some ad ∧ ∀ j u, (ts.flatMap eOf)[j]? = some u → wo.cell? (ad.add j) = some u := by
        rcases HE.out.below hbr.out with h | h
        · rw [h] at e0; simp at e0
        · exact h
      have r0 := hcE _ _ e0
      have r1 := hcE _ _ e1'
      have rF : wo.cell? (af.add k) = some (.slice (some ⟨gk, 0, none⟩) lk.length ck) := by
        rcases HF.out.below hbr.out with h | ⟨ad2, e, hc⟩
        · simp at h
        · injection e with e; subst e
          exact hc _ _ (by rw [List.getElem?_append_left (by simp; omega), List.getElem?_map, htt]; rfl)
      have k0 : wo.cell? ⟨w.heap.size, 0, none⟩ = some (.slice (some ae') xss.length ce) := cell_kept hbr.out (by simp)
      have k1 : wo.cell? ⟨w.heap.size, 1, none⟩ = some (.slice (some af) (xss.length + 2) cf) := cell_kept hbr.out (by simp)
      have c0 : ∀ (d : Nat) (os : Array Obj), (Go.Sort.grow (redrawn wo d) os).cell? ⟨w.heap.size, 0, none⟩ = some (.slice (some ae') xss.length ce) := fun d os => cell_regrown k0 d os
      have c1' : ∀ (d : Nat) (os : Array Obj), (Go.Sort.grow (redrawn wo d) os).cell? ⟨w.heap.size, 1, none⟩ = some (.slice (some af) (xss.length + 2) cf) := fun d os => cell_regrown k1 d os
      have c2 : ∀ (d : Nat) (os : Array Obj), (Go.Sort.grow (redrawn wo d) os).cell? (ae'.add (k * 2)) = some (.slice (some ⟨gk, 0, none⟩) (lk.length + 3) ck) := fun d os => cell_regrown r0 d os
      have c3 : ∀ (d : Nat) (os : Array Obj), (Go.Sort.grow (redrawn wo d) os).cell? ⟨(ae'.add (k * 2)).block, (ae'.add (k * 2)).off + 1, none⟩ = some (.int .i64 lk.length) := fun d os => by
        have e : (⟨(ae'.add (k * 2)).block, (ae'.add (k * 2)).off + 1, none⟩ : Addr) = (ae'.add (k * 2)).add 1 := rfl
        rw [e, Addr.add_add]; exact cell_regrown r1 d os
      have c4 : ∀ (d : Nat) (os : Array Obj), (Go.Sort.grow (redrawn wo d) os).cell? (af.add k) = some (.slice (some ⟨gk, 0, none⟩) lk.length ck) := fun d os => cell_regrown rF d os
      have c5 : ∀ (d : Nat) (os : Array Obj), (Go.Sort.grow (redrawn wo d) os).cell? (ad.add k) = some (.slice A1 lk.length c1) := fun d os => cell_regrown hcell d os
      have cK : ∀ (d : Nat) (os : Array Obj), Calls Tryd.prog 41 #[.agg #[.slice (some ⟨gk, 0, none⟩) (lk.length + 3) ck, .int .i64 lk.length], .slice A1 lk.length c1] (Go.Sort.grow (redrawn wo d) os) fun e w'' => e = .returned (.bool true) ∧ ∃ p : Regrown, w'' = Go.Sort.grow (redrawn wo p.d) p.os := fun d os =>
        Calls.regrown_of (roomKept_calls _ A1 c1 lk _ (hrk.below (below_regrown wo d os)) (IntsAt.below Hi.out (below_regrown wo d os)) hl1)
      have CK := Lib.hid cK
      clear cK hcE e0 e1' hrk htt
      go_wp2_with fail
      refine wp_region_quiet_below (by kernel_rfl) (by kernel_rfl) ?_
      repeat (quiet_step (first | exact CK.out _ _))
      refine wpQuiet_nil ?_
      intro _ hw'
      obtain ⟨⟨dq, osq⟩, hw''⟩ := hw'
      subst hw''
      go_wp2_with fail
      exact ⟨⟨k + 1, by omega, by go_num, hbr.out.trans (Below.lower_ (below_regrown wo dq osq) hbr.out.size)⟩, by simp [intOf]; omega⟩
    · go_wp2_with fail
      go_ret
      exact ⟨rfl, below_of Hb.out Hb.out.size hbr.out⟩

end Go.Proofs.YtnadmnhkfdkafaaDoor
