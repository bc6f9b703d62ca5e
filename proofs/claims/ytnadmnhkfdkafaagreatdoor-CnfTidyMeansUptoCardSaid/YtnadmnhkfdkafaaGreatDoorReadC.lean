/- Contracts: the document's Clausal, Check; sameInts, same, empty, size, Before, order. -/
import Derived.Test.YtnadmnhkfdkafaaGreatDoorReadB
namespace Go.Proofs.YtnadmnhkfdkafaaGreatDoor
open Go.RowKit
set_option linter.unusedVariables false
set_option linter.unusedSimpArgs false

theorem quiet_eq {P : Program} {f : FuncId} {args : Array Value} {w : World} {n : Nat} {v : Value}
    (h : Calls P f args (w.drewN n) fun e w' => e = .returned v ∧ w.drewN n = w') : Calls P f args (w.drewN n) fun e w'' => e = .returned v ∧ ∃ m, w'' = w.drewN m :=
  h.mono fun _ _ ⟨he, hm⟩ => ⟨he, n, hm.symm⟩
theorem quiet_at {P : Program} {f : FuncId} {args : Array Value} {W : World} {q n : Nat} {v : Value}
    (h : ∀ m, Calls P f args (W.drewN m) fun e w' => e = .returned v ∧ ∃ j, w' = (W.drewN m).drewN j) : Calls P f args (W.drewN (q + n)) fun e w'' => e = .returned v ∧ ∃ m, w'' = W.drewN (q + m) :=
  (h (q + n)).mono fun _ _ ⟨he, j, hm⟩ => ⟨he, n + j, by rw [hm, World.drewN_drewN, Nat.add_assoc]⟩
theorem IntsAt.drewN {w : World} {A : Option Addr} {xs : List Int} (h : IntsAt w A xs) (q : Nat) : IntsAt (w.drewN q) A xs := h
theorem RowsAt.drewN {w : World} {A : Option Addr} {xs : List (List Int)} (h : RowsAt w A xs) (q : Nat) : RowsAt (w.drewN q) A xs := h

set_option maxHeartbeats 1000000 in
theorem sameInts_calls (A : Option Addr) (c : Nat) (xs : List Int) (A' : Option Addr) (c' : Nat) (ys : List Int) (w : World) (hx : IntsAt w A xs) (hy : IntsAt w A' ys) (hl : xs.length ≤ 9223372036854775807) (hl' : ys.length ≤ 9223372036854775807) :
    Calls Tryz.prog 25 #[.slice A xs.length c, .slice A' ys.length c'] w fun e w' => e = .returned (.bool (decide (xs = ys))) ∧ ∃ q, w' = w.drewN q := by
  have HX := Lib.hid hx
  have HY := Lib.hid hy
  clear hx hy
  by_cases hlen : xs.length = ys.length
  case neg =>
    have Hs := Lib.hid (show decide (xs = ys) = false by rw [decide_eq_false]; intro h; exact hlen (by rw [h]))
    have b1 : ((xs.length : Int) != (ys.length : Int)) = true := by rw [bne_iff_ne]; omega
    generalize decide (xs = ys) = r at Hs ⊢
    clear hlen
    go_enter Tryz.func25, Tryz.ntmps25
    go_wp2
    go_ret
    exact ⟨ret_bool Hs.out.symm, 0, rfl⟩
  have b1 : ((xs.length : Int) != (ys.length : Int)) = false := by rw [bne_eq_false_iff_eq]; omega
  have HL := Lib.hid hlen
  have hle : ys.length ≤ xs.length := by omega
  have hge : xs.length ≤ ys.length := by omega
  clear hlen
  generalize hr : decide (xs = ys) = r
  have Hr := Lib.hid hr
  clear hr
  go_enter Tryz.func25, Tryz.ntmps25
  go_wp2
  go_loopw [5] (fun i wr => ∃ (k q : Nat), k ≤ xs.length ∧ i = .int .i64 k ∧ wr = w.drewN q ∧ Hid (xs.take k = ys.take k)) (fun i _ => xs.length - (intOf i).toNat)
  case atStart => exact ⟨0, 0, Nat.zero_le _, rfl, rfl, by simp [Hid]⟩
  case round =>
    obtain ⟨k, q, hk, rfl, rfl, hall⟩ := hrel
    by_cases hlt : k < xs.length
    · obtain ⟨ad, x, rfl, hcell, Hx⟩ := HX.out.get hlt
      obtain ⟨ad', y, rfl, hcell', Hy⟩ := HY.out.get (show k < ys.length by omega)
      have hlt' : k < ys.length := by omega
      have hlz : (k : Int) < ys.length := by omega
      by_cases hp : x = y
      · have b2 : (x != y) = false := bne_eq_false_iff_eq.2 hp
        have Hs := Lib.hid (show xs.take (k + 1) = ys.take (k + 1) by rw [List.take_add_one, List.take_add_one, hall.out, Hx.out, Hy.out, hp])
        clear hp
        go_wp2
        go_quiet (fail)
        go_wp2
        exact ⟨⟨k + 1, _, by omega, by go_num, rfl, Hs⟩, by simp [intOf]; omega⟩
      · have b2 : (x != y) = true := bne_iff_ne.2 hp
        have Hs := Lib.hid (show r = false by rw [← Hr.out, decide_eq_false]; intro h; apply hp; have h1 := Hx.out; have h2 := Hy.out; rw [h, h2] at h1; injection h1 with h1; exact h1.symm)
        clear hp
        go_wp2
        go_quiet (fail)
        go_wp2
        go_ret
        exact ⟨ret_bool Hs.out.symm, _, by first | rfl | exact World.drewN_drewN ..⟩
    · have Hs := Lib.hid (show r = true by
        rw [← Hr.out, decide_eq_true]
        have h := hall.out
        rwa [List.take_of_length_le (by omega), List.take_of_length_le (by omega)] at h)
      go_wp2
      go_ret
      exact ⟨ret_bool Hs.out.symm, _, by first | rfl | exact World.drewN_drewN ..⟩


set_option maxHeartbeats 2000000 in
theorem same_calls (n : Int) (A : Option Addr) (c : Nat) (xss : List (List Int)) (At : Option Addr) (ct : Nat) (ts : List Int)
    (n' : Int) (A' : Option Addr) (c' : Nat) (yss : List (List Int)) (At' : Option Addr) (ct' : Nat) (us : List Int) (w : World)
    (hx : RowsAt w A xss) (ht : IntsAt w At ts) (hy : RowsAt w A' yss) (hu : IntsAt w At' us)
    (hl : xss.length ≤ 9223372036854775807) (htl : ts.length ≤ 9223372036854775807) (hyl : yss.length ≤ 9223372036854775807) (hul : us.length ≤ 9223372036854775807) :
    Calls Tryz.prog 24 #[.agg #[.int .i64 n, .slice A xss.length c, .slice At ts.length ct], .agg #[.int .i64 n', .slice A' yss.length c', .slice At' us.length ct']] w
      fun e w' => e = .returned (.bool (decide (n = n' ∧ xss = yss ∧ ts = us))) ∧ Below w.heap.size w w' := by
  generalize hr : decide (n = n' ∧ xss = yss ∧ ts = us) = r
  have HB := Lib.hid (fun q => below_drewN (((Below.refl w.heap.size w).alloc (Nat.le_refl _) (.cells #[.int .i64 n, .slice A xss.length c, .slice At ts.length ct] 54)).alloc (by simp) (.cells #[.int .i64 n', .slice A' yss.length c', .slice At' us.length ct'] 54)) q)
  by_cases h0 : n = n'
  case neg =>
    have Hs := Lib.hid (show r = false by rw [← hr, decide_eq_false]; intro h; exact h0 h.1)
    have b1 : (n != n') = true := bne_iff_ne.2 h0
    clear hr h0 hx ht hy hu
    go_enter Tryz.func24, Tryz.ntmps24
    go_wp2_with fail
    go_ret
    exact ⟨ret_bool Hs.out.symm, HB.out 0⟩
  subst h0
  have b1 : (n != n) = false := by simp
  by_cases h1 : xss.length = yss.length
  case neg =>
    have Hs := Lib.hid (show r = false by rw [← hr, decide_eq_false]; intro h; exact h1 (by rw [h.2.1]))
    have b2 : ((xss.length : Int) != (yss.length : Int)) = true := by rw [bne_iff_ne]; omega
    clear hr h1 hx ht hy hu
    go_enter Tryz.func24, Tryz.ntmps24
    go_wp2_with fail
    go_ret
    exact ⟨ret_bool Hs.out.symm, HB.out 0⟩
  have b2 : ((xss.length : Int) != (yss.length : Int)) = false := by rw [bne_eq_false_iff_eq]; omega
  have hle : xss.length ≤ yss.length := by omega
  have hge : yss.length ≤ xss.length := by omega
  clear h1
  generalize hW : (w.alloc (.cells #[.int .i64 n, .slice A xss.length c, .slice At ts.length ct] 54)).alloc (.cells #[.int .i64 n, .slice A' yss.length c', .slice At' us.length ct'] 54) = W at HB
  have hb : Below w.heap.size w W := HB.out 0
  have ct1 := Lib.hid (sameInts_calls At ct ts At' ct' us W (ht.below hb) (hu.below hb) htl hul)
  have HX := Lib.hid (hx.below hb)
  have HY := Lib.hid (hy.below hb)
  clear hx ht hy hu hb
  by_cases h2 : ts = us
  case neg =>
    have h2' : decide (ts = us) = false := decide_eq_false h2
    have Hs := Lib.hid (show r = false by rw [← hr, decide_eq_false]; intro h; exact h2 h.2.2)
    rw [h2'] at ct1
    clear hr h2 h2'
    subst hW
    go_enter Tryz.func24, Tryz.ntmps24
    go_wp2_with fail
    refine ct1.out.mono ?_
    rintro e w' ⟨rfl, q, rfl⟩
    go_wp2_with fail
    go_ret
    exact ⟨ret_bool Hs.out.symm, HB.out q⟩
  have h2' : decide (ts = us) = true := decide_eq_true h2
  have Hr := Lib.hid (show r = decide (xss = yss) by rw [← hr]; simp [h2])
  rw [h2'] at ct1
  clear hr h2 h2'
  subst hW
  go_enter Tryz.func24, Tryz.ntmps24
  go_wp2_with fail
  refine ct1.out.mono ?_
  rintro e w' ⟨rfl, q0, rfl⟩
  go_wp2_with fail
  go_loopw [5] (fun i wr => ∃ (k q : Nat), k ≤ xss.length ∧ i = .int .i64 k ∧ wr = (((w.alloc (.cells #[.int .i64 n, .slice A xss.length c, .slice At ts.length ct] 54)).alloc (.cells #[.int .i64 n, .slice A' yss.length c', .slice At' us.length ct'] 54)).drewN q) ∧ Hid (xss.take k = yss.take k)) (fun i _ => xss.length - (intOf i).toNat)
  case atStart => exact ⟨0, _, Nat.zero_le _, rfl, rfl, by simp [Hid]⟩
  case round =>
    obtain ⟨k, q, hk, rfl, rfl, hall⟩ := hrel
    by_cases hlt : k < xss.length
    · obtain ⟨ad, A1, c1, xs, rfl, hcell, hc1, hm1, Hx, HX1⟩ := HX.out.get hlt
      obtain ⟨ad', A2, c2, ys, rfl, hcell', hc2, hm2, Hy, HY1⟩ := HY.out.get (show k < yss.length by omega)
      have hlt' : k < yss.length := by omega
      have hlz : (k : Int) < yss.length := by omega
      have ct2 := Lib.hid (fun nq : Nat => sameInts_calls A1 c1 xs A2 c2 ys _ (HX1.out.drewN nq) (HY1.out.drewN nq) (by omega) (by omega))
      by_cases hp : xs = ys
      · have h2' : decide (xs = ys) = true := decide_eq_true hp
        have Hs := Lib.hid (show xss.take (k + 1) = yss.take (k + 1) by rw [List.take_add_one, List.take_add_one, hall.out, Hx.out, Hy.out, hp])
        rw [h2'] at ct2
        clear hp h2'
        go_wp2_with fail
        go_quiet ((exact quiet_at ct2.out))
        go_wp2_with fail
        exact ⟨⟨k + 1, _, by omega, by go_num, by first | rfl | exact World.drewN_drewN .., Hs⟩, by simp [intOf]; omega⟩
      · have h2' : decide (xs = ys) = false := decide_eq_false hp
        have Hs := Lib.hid (show r = false by rw [Hr.out, decide_eq_false]; intro h; apply hp; have h1 := Hx.out; have h2 := Hy.out; rw [h, h2] at h1; injection h1 with h1; exact h1.symm)
        rw [h2'] at ct2
        clear hp h2'
        go_wp2_with fail
        go_quiet ((exact quiet_at ct2.out))
        go_wp2_with fail
        go_ret
        exact ⟨ret_bool Hs.out.symm, by rw [World.drewN_drewN]; exact HB.out _⟩
    · have Hs := Lib.hid (show r = true by
        rw [Hr.out, decide_eq_true]
        have h := hall.out
        rwa [List.take_of_length_le (by omega), List.take_of_length_le (by omega)] at h)
      go_wp2_with fail
      go_ret
      exact ⟨ret_bool Hs.out.symm, HB.out q⟩

end Go.Proofs.YtnadmnhkfdkafaaGreatDoor
