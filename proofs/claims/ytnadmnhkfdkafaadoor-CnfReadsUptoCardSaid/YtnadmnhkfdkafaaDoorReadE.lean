/- Contracts: the document's Check, size, Before, empty, order. -/
import Derived.Test.YtnadmnhkfdkafaaDoorReadD
import Derived.IntWalk
namespace Go.Proofs.YtnadmnhkfdkafaaDoor
open Go.RowKit
set_option linter.unusedVariables false
set_option linter.unusedSimpArgs false

theorem okCnf_eq (n : Int) (xss : List (List Int)) (ts : List Int) : okCnf ⟨n, xss, ts⟩ = (okVars n && okRows n xss && ts.all (okLit n)) := by
  simp only [okCnf]
  cases okVars n <;> cases okRows n xss <;> cases ts.all (okLit n) <;> rfl

set_option maxHeartbeats 2000000 in
theorem refCheck_calls (n : Int) (A : Option Addr) (c : Nat) (xss : List (List Int)) (At : Option Addr) (ct : Nat) (ts : List Int) (w : World)
    (hx : RowsAt w A xss) (ht : IntsAt w At ts) (hl : xss.length ≤ 9223372036854775807) (htl : ts.length ≤ 9223372036854775807) :
    Calls Tryd.prog 18 #[.agg #[.int .i64 n, .slice A xss.length c, .slice At ts.length ct]] w fun e w' => e = .returned (.int .i64 (if okCnf ⟨n, xss, ts⟩ then 0 else 62)) ∧ Below w.heap.size w w' := by
  generalize hr : (if okCnf ⟨n, xss, ts⟩ then (0 : Int) else 62) = r
  have hb := (Below.refl w.heap.size w).alloc (Nat.le_refl _) (.cells #[.int .i64 n, .slice A xss.length c, .slice At ts.length ct] 25)
  have HB := Lib.hid (fun q => below_drewN (hb.alloc (by simp) (.cells #[.int .i64 n, .slice A xss.length c, .slice At ts.length ct] 25)) q)
  have ct1 := Lib.hid (clausal_calls n A c xss (.slice At ts.length ct) _ (hx.below hb) hl)
  have HT := Lib.hid (ht.below (hb.alloc (by simp) (.cells #[.int .i64 n, .slice A xss.length c, .slice At ts.length ct] 25)))
  by_cases h0 : (okVars n && okRows n xss) = true
  case neg =>
    have h0' : (okVars n && okRows n xss) = false := by simpa using h0
    have Hs := Lib.hid (show r = 62 by rw [← hr]; simp [okCnf_eq, h0'])
    rw [h0'] at ct1
    clear hr hx ht hb h0 h0'
    go_enter Tryd.func18, Tryd.ntmps18
    go_wp2_with fail
    refine ct1.out.mono ?_
    rintro e w' ⟨rfl, q, rfl⟩
    go_wp2_with fail
    go_ret
    exact ⟨ret_i64 Hs.out.symm, HB.out _⟩
  have Hr := Lib.hid (show r = if ts.all (okLit n) then 0 else 62 by rw [← hr]; simp [okCnf_eq, h0])
  rw [h0] at ct1
  obtain ⟨hv0, hv1⟩ : 0 ≤ n ∧ n ≤ 1000000 := by simp only [Bool.and_eq_true, okVars, decide_eq_true_eq] at h0; exact h0.1
  clear hr hx ht hb h0
  go_enter Tryd.func18, Tryd.ntmps18
  go_wp2_with fail
  refine ct1.out.mono ?_
  rintro e w' ⟨rfl, q, rfl⟩
  go_wp2_with fail
  go_loopw [3] (fun i wr => ∃ (k q : Nat), k ≤ ts.length ∧ i = .int .i64 k ∧ wr = ((w.alloc (.cells #[.int .i64 n, .slice A xss.length c, .slice At ts.length ct] 25)).alloc (.cells #[.int .i64 n, .slice A xss.length c, .slice At ts.length ct] 25)).drewN q ∧ Hid ((ts.take k).all (okLit n) = true)) (fun i _ => ts.length - (intOf i).toNat)
  case atStart => exact ⟨0, _, Nat.zero_le _, rfl, rfl, by simp [Hid]⟩
  case round =>
    obtain ⟨k, q, hk, rfl, rfl, hall⟩ := hrel
    by_cases hlt : k < ts.length
    · obtain ⟨ad, x, rfl, hcell, Hx⟩ := HT.out.get hlt
      have hlz : (k : Int) < ts.length := by omega
      have c2 := Lib.hid (fun m : Nat => (literal_calls x n (((w.alloc (.cells #[.int .i64 n, .slice A xss.length c, .slice (some ad) ts.length ct] 25)).alloc (.cells #[.int .i64 n, .slice A xss.length c, .slice (some ad) ts.length ct] 25)).drewN m) (by omega) (by omega)).mono (R' := fun e w' => e = .returned (.bool (okLit n x)) ∧ ∃ j, w' = (((w.alloc (.cells #[.int .i64 n, .slice A xss.length c, .slice (some ad) ts.length ct] 25)).alloc (.cells #[.int .i64 n, .slice A xss.length c, .slice (some ad) ts.length ct] 25)).drewN m).drewN j) fun _ _ ⟨he, hm⟩ => ⟨he, 0, hm.symm⟩)
      by_cases hp : okLit n x = true
      · have Hs := Lib.hid (show (ts.take (k + 1)).all (okLit n) = true by rw [all_take_succ Hx.out, hall.out, hp]; rfl)
        rw [hp] at c2
        clear hp
        go_wp2_with fail
        go_quiet ((exact quiet_at c2.out))
        go_wp2_with fail
        exact ⟨⟨k + 1, _, by omega, by go_num, by first | rfl | exact World.drewN_drewN .., Hs⟩, by simp [intOf]; omega⟩
      · have hp' : okLit n x = false := by simpa using hp
        have Hs := Lib.hid (show r = 62 by rw [Hr.out, all_false Hx.out hp']; rfl)
        rw [hp'] at c2
        clear hp hp'
        go_wp2_with fail
        go_quiet ((exact quiet_at c2.out))
        go_wp2_with fail
        go_ret
        exact ⟨ret_i64 Hs.out.symm, by try rw [World.drewN_drewN]
                                       exact HB.out _⟩
    · have Hs := Lib.hid (show r = 0 by rw [Hr.out, all_done hall.out (by omega)]; rfl)
      go_wp2_with fail
      go_ret
      exact ⟨ret_i64 Hs.out.symm, HB.out _⟩

def sizeL (x : Int) : Int := if x < 0 then -x else x
theorem sizeL_bd (x : Int) (h0 : -1000000 ≤ x) (h1 : x ≤ 1000000) : 0 ≤ sizeL x ∧ sizeL x ≤ 1000000 := by unfold sizeL; split <;> omega
theorem size_calls (x : Int) (w : World) (h0 : -1000000 ≤ x) (h1 : x ≤ 1000000) :
    Calls Tryd.prog 78 #[.int .i64 x] w fun e w' => e = .returned (.int .i64 (sizeL x)) ∧ w = w' := by
  by_cases h : x < 0
  · have Hr := Lib.hid (show sizeL x = -x by simp [sizeL, h])
    go_enter Tryd.func78, Tryd.ntmps78
    go_wp2
    go_ret
    exact ⟨ret_i64 Hr.out.symm, rfl⟩
  · have Hr := Lib.hid (show sizeL x = x by simp [sizeL, h])
    go_enter Tryd.func78, Tryd.ntmps78
    go_wp2
    go_ret
    exact ⟨ret_i64 Hr.out.symm, rfl⟩

theorem ltL_eq (x y : Int) : ltL x y = if sizeL x = sizeL y then decide (y < x) else decide (sizeL x < sizeL y) := by
  unfold ltL rankL sizeL
  by_cases h1 : x < 0 <;> by_cases h2 : y < 0 <;> simp only [h1, h2, if_true, if_false] <;> split <;> rw [decide_eq_decide] <;> omega

theorem refBefore_calls (x y : Int) (w : World) (h0 : -1000000 ≤ x) (h1 : x ≤ 1000000) (h2 : -1000000 ≤ y) (h3 : y ≤ 1000000) :
    Calls Tryd.prog 56 #[.int .i64 x, .int .i64 y] w fun e w' => e = .returned (.bool (ltL x y)) ∧ w = w' := by
  have c1 := Lib.hid (size_calls x w h0 h1)
  have c2 := Lib.hid (size_calls y w h2 h3)
  have He := Lib.hid (ltL_eq x y)
  by_cases h : sizeL x = sizeL y
  · have Hs := Lib.hid (show ltL x y = decide (y < x) by rw [He.out, if_pos h])
    have b1 : (sizeL x != sizeL y) = false := bne_eq_false_iff_eq.2 h
    clear h h0 h1 h2 h3 He
    go_enter Tryd.func56, Tryd.ntmps56
    go_wp2_with fail
    refine c1.out.mono ?_
    rintro e w' ⟨rfl, rfl⟩
    go_wp2_with fail
    refine c2.out.mono ?_
    rintro e w' ⟨rfl, rfl⟩
    go_wp2_with fail
    go_ret
    exact ⟨ret_bool Hs.out.symm, rfl⟩
  · have Hs := Lib.hid (show ltL x y = decide (sizeL x < sizeL y) by rw [He.out, if_neg h])
    have b1 : (sizeL x != sizeL y) = true := bne_iff_ne.2 h
    clear h h0 h1 h2 h3 He
    go_enter Tryd.func56, Tryd.ntmps56
    go_wp2_with fail
    refine c1.out.mono ?_
    rintro e w' ⟨rfl, rfl⟩
    go_wp2_with fail
    refine c2.out.mono ?_
    rintro e w' ⟨rfl, rfl⟩
    go_wp2_with fail
    refine c1.out.mono ?_
    rintro e w' ⟨rfl, rfl⟩
    go_wp2_with fail
    refine c2.out.mono ?_
    rintro e w' ⟨rfl, rfl⟩
    go_wp2_with fail
    go_ret
    exact ⟨ret_bool Hs.out.symm, rfl⟩

set_option maxHeartbeats 1000000 in
theorem refEmpty_calls (A : Option Addr) (c : Nat) (xs : List Int) (w : World) (hx : IntsAt w A xs) (hl : xs.length ≤ 9223372036854775807) (hbd : ∀ x ∈ xs, -1000000 ≤ x ∧ x ≤ 1000000) :
    Calls Tryd.prog 20 #[.slice A xs.length c] w fun e w' => e = .returned (.bool (taut xs)) ∧ ∃ q, w' = w.drewN q := by
  have HX := Lib.hid hx
  have HD := Lib.hid hbd
  clear hx hbd
  generalize hr : taut xs = r
  have Hr := Lib.hid hr
  clear hr
  go_enter Tryd.func20, Tryd.ntmps20
  go_wp2
  go_loopw [3] (fun i wr => ∃ (k q : Nat), 1 ≤ k ∧ k ≤ xs.length + 1 ∧ i = .int .i64 k ∧ wr = w.drewN q ∧ Hid (∀ i a b, i + 1 < k → xs[i]? = some a → xs[i + 1]? = some b → b ≠ -a)) (fun i _ => xs.length + 1 - (intOf i).toNat)
  case atStart => exact ⟨1, 0, Nat.le_refl _, by omega, rfl, rfl, fun i a b h => by omega⟩
  case round =>
    obtain ⟨k, q, hk1, hk, rfl, rfl, hall⟩ := hrel
    by_cases hlt : k < xs.length
    · obtain ⟨p, hp⟩ : ∃ p : Nat, p + 1 = k := ⟨k - 1, by omega⟩
      have Hp := Lib.hid hp
      have hpl : p < xs.length := by omega
      have hw1 : IntKind.i64.wrap ((k : Int) - 1) = (p : Int) := by rw [IntWalk.i64_in _ (by omega)]; omega
      have hw2 : wrap64 ((k : Int) - 1) = (p : Int) := by unfold wrap64; omega
      have hw3 : ((k : Int) - 1) = (p : Int) := by omega
      clear hp
      obtain ⟨ad, x, rfl, hcell, Hx⟩ := HX.out.get hpl
      obtain ⟨ad', y, e', hcell', Hy⟩ := HX.out.get hlt
      cases e'
      obtain ⟨bx0, bx1⟩ := HD.out x (List.mem_of_getElem? Hx.out)
      have hw4 : IntKind.i64.wrap (-x) = -x := IntWalk.i64_in _ (by omega)
      have hlz : (k : Int) < xs.length := by omega
      have hlz2 : (p : Int) < xs.length := by omega
      by_cases hp : y = -x
      · have b2 : (y == -x) = true := beq_iff_eq.2 hp
        have Hs := Lib.hid (show r = true by rw [← Hr.out]; exact taut_true Hx.out (by rw [Hp.out]; exact Hy.out) hp)
        clear hp
        go_wp2
        go_quiet (fail)
        go_wp2
        go_ret
        exact ⟨ret_bool Hs.out.symm, _, by first | rfl | exact World.drewN_drewN ..⟩
      · have b2 : (y == -x) = false := beq_eq_false_iff_ne.2 hp
        have Hs := Lib.hid (show ∀ i a b, i + 1 < k + 1 → xs[i]? = some a → xs[i + 1]? = some b → b ≠ -a from fun i a b hi ha hb => by
          rcases Nat.lt_or_ge (i + 1) k with h | h
          · exact hall.out i a b h ha hb
          · have := Hp.out
            obtain rfl : i = p := by omega
            rw [Hx.out] at ha; rw [Hp.out, Hy.out] at hb
            injection ha with ha; injection hb with hb
            rw [← ha, ← hb]; exact hp)
        clear hp hw3
        go_wp2
        go_quiet (fail)
        go_wp2
        exact ⟨⟨k + 1, _, by omega, by omega, by go_num, by first | rfl | exact World.drewN_drewN .., Hs⟩, by simp [intOf]; omega⟩
    · have Hs := Lib.hid (show r = false by
        rw [← Hr.out]
        exact taut_false fun i a b ha hb => hall.out i a b (by have := (List.getElem?_eq_some_iff.1 hb).1; omega) ha hb)
      go_wp2
      go_ret
      exact ⟨ret_bool Hs.out.symm, _, by first | rfl | exact World.drewN_drewN ..⟩

end Go.Proofs.YtnadmnhkfdkafaaDoor
