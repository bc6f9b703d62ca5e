/- Contract: cnf.Tidy. -/
import Derived.Test.YtnadmnhkfdkafaaGreatDoorSorts
import Derived.Test.YtnadmnhkfdkafaaGreatDoorNilSort
import Derived.Test.YtnadmnhkfdkafaaGreatDoorShow
import Derived.Test.YtnadmnhkfdkafaaGreatDoorReadB
import Derived.Laws.CopyOwn
import Derived.Laws.OwnMore
import Derived.OwnWalk
import Derived.Maps.OwnOps
import Derived.Maps.OwnSet
import Derived.Deep.CutRange
import Derived.WalkMore
namespace Go.Proofs.YtnadmnhkfdkafaaGreatDoor
open Go.RowKit
set_option linter.unusedVariables false
set_option linter.unusedSimpArgs false

theorem run_mkInts (n : Nat) (hn : n ≤ 1099511627776) (W : World) : (Instr.makeSlice 25 (.int .i64 (n : Int)) (.int .i64 (n : Int))).run Tryz.prog W = .ok (.slice (some ⟨W.heap.size, 0, none⟩) n n) (W.alloc (.cells (madeCells #[.int .i64 0] n) 3)) := by
  obtain ⟨i0, hi, hz0, hz1, hz2⟩ := info_parts info_int
  have h := run_make (P := Tryz.prog) W 25 3 i0 (.int .i64 0) Tryz.underlying25 hi hz0 .i64 .i64 n n (by omega) (Int.le_refl _) (by rw [hz2]; omega) (by omega)
  rw [hz1] at h
  simp only [Int.toNat_natCast, Nat.mul_one] at h
  exact h
theorem own_made (W : World) (B n : Nat) (hB : B ≤ W.heap.size) (hn : n ≤ 1099511627776) : (W.alloc (.cells (madeCells #[.int .i64 0] n) 3)).ownsRow B 3 1 (.slice (some ⟨W.heap.size, 0, none⟩) n n) n (madeCells #[.int .i64 0] n).toList := by
  have h := World.ownsRow_lit W (e := 3) (size := 1) (madeCells #[.int .i64 0] n) n hB (by simp only [maxLen]; omega) (by simp [size_madeCells])
  exact h

/-- copy into a row of the call's own -/
theorem wpList_copy_ints {ops : Array Oper} {rest : List Oper} {o : Oper} {a : Act} {w : World} {Q : Exit → Act → World → Prop} (hgd : o.guard = none) (d s : Operand)
    (ho : o.op = .call { callee := .builtin .copy, args := #[d, s], argTypes := #[25, 25] })
    (B g cap sCap : Nat) (A : Option Addr) (xs : List Int) (ds : List Value) (hd : a.eval d = .slice (some ⟨g, 0, none⟩) xs.length cap) (hs : a.eval s = .slice A xs.length sCap)
    (hown : w.ownsRow B 3 1 (.slice (some ⟨g, 0, none⟩) xs.length cap) xs.length ds) (hsrc : IntsAt w A xs)
    (h : ∀ w', OwnI w' B 3 (.slice (some ⟨g, 0, none⟩) xs.length cap) xs → w.grownBy w' (some g) → wpList Tryz.prog ops Q rest (a.put o.dst (goInt xs.length)) w') : wpList Tryz.prog ops Q (o :: rest) a w := by
  by_cases h0 : xs = []
  · subst h0
    refine wpList_copy_nothing hgd d s _ _ ho 3 Tryz.underlying25 (by kernel_rfl) _ _ _ _ _ _ hd hs (by simp) ?_
    refine h w ?_ ⟨rfl, rfl, rfl, Nat.le_refl _, fun _ _ _ => rfl⟩
    have hl := hown.1
    obtain rfl : ds = [] := List.eq_nil_of_length_eq_zero (by simpa using hl)
    exact hown
  · rcases hsrc with h1 | ⟨ad, rfl, hc⟩
    · simp at h1; exact absurd h1 h0
    rcases hown.2 with ⟨h1, _⟩ | ⟨g', cap', cur, hv, hBg, hg, hnc, hcm, hcs, hct⟩
    · cases h1
    injection hv with hv1 _ hv3
    injection hv1 with hv1
    injection hv1 with hv1
    subst hv1; subst hv3
    have hcs' : cur.size = cap := by simpa using hcs
    refine wpList_copy_own hgd d s _ _ ho 3 Tryz.underlying25 (by kernel_rfl) g 0 xs.length cap ad xs.length sCap hd hs cur 3 hg (xs.map (Value.int .i64)) (by simp) hc (by simp; omega) (ints_oneCell _ _) ?_
    rw [List.length_map]
    refine h _ ?_ ⟨rfl, rfl, rfl, by simp, fun k _ hk => setRow_other w g k _ (fun e => hk (by rw [e]))⟩
    refine ⟨by simp, .inr ⟨g, cap, _, rfl, hBg, setRow_heap w g cur _ _ _ hg, hnc, hcm, by simp; omega, ?_⟩⟩
    simp

/-! ### the map of lines -/
def IsMapAt (w : World) (b : Nat) : Prop := ∃ es clk, w.heap[b]? = some (.map es clk)
def MapI (w : World) (b k : Nat) (O : List (List Int)) : Prop :=
  ∃ (n : Nat) (D : DataW Unit), n ≤ k ∧ w.ownsMap Tryz.prog 9 (plainElem Tryz.prog 3) b n D ∧
    ∀ s : List UInt8, ∃ c : Nat, D.atKey (.string s) (.lit (.int .i64 0)) = .lit (.int .i64 (c : Int)) ∧ c ≤ k ∧ (c = 0 ↔ ∀ l ∈ O, lineB l ++ [48, 10] ≠ s)
theorem MapI.new (w : World) : MapI (w.alloc (.map #[] 0)) w.heap.size 0 [] :=
  ⟨0, .map [], Nat.le_refl _, World.ownsMap_made w _ _ _, fun s => ⟨0, rfl, Nat.le_refl _, by simp⟩⟩
theorem MapI.at_ {w : World} {b k : Nat} {O : List (List Int)} (h : MapI w b k O) : IsMapAt w b := by
  obtain ⟨n, D, _, ⟨es, clk, hb, _⟩, _⟩ := h
  exact ⟨es, clk, hb⟩
theorem MapI.lt {w : World} {b k : Nat} {O : List (List Int)} (h : MapI w b k O) : b < w.heap.size := by
  obtain ⟨n, D, _, h1, _⟩ := h
  exact h1.lt
theorem MapI.grown {w w' : World} {b k : Nat} {O : List (List Int)} {row : Option Nat} (h : MapI w b k O) (hg : w.grownBy w' row) (hne : some b ≠ row) : MapI w' b k O := by
  obtain ⟨n, D, h0, h1, h2⟩ := h
  exact ⟨n, D, h0, h1.kept hg hne, h2⟩
theorem MapI.below {w w' : World} {b k : Nat} {O : List (List Int)} (h : MapI w b k O) (hb : Below w.heap.size w w') : MapI w' b k O :=
  h.grown (row := none) ⟨hb.os, hb.tape, hb.output, hb.size, fun i hi _ => hb.block i hi⟩ (by simp)
theorem MapI.setCell {w : World} {b k : Nat} {O : List (List Int)} (h : MapI w b k O) {a : Addr} (ha : b ≠ a.block) (u : Value) : MapI (w.setCell a u) b k O := by
  obtain ⟨n, D, h0, h1, h2⟩ := h
  exact ⟨n, D, h0, h1.setCell ha u, h2⟩
theorem MapI.mono {w : World} {b k k' : Nat} {O : List (List Int)} (h : MapI w b k O) (hk : k ≤ k') : MapI w b k' O := by
  obtain ⟨n, D, h0, h1, h2⟩ := h
  exact ⟨n, D, Nat.le_trans h0 hk, h1, fun s => by obtain ⟨c, a1, a2, a3⟩ := h2 s; exact ⟨c, a1, Nat.le_trans a2 hk, a3⟩⟩
theorem blk_ne_map {w : World} {g t b : Nat} {cs : Array Value} (h : Blk w g t cs) (hm : IsMapAt w b) : g ≠ b := by
  rintro rfl
  obtain ⟨es, clk, hb⟩ := hm
  unfold Blk at h
  rw [hb] at h; cases h
theorem own_ne_map {w : World} {B e s n b : Nat} {v : Value} {xs : List Value} (h : w.ownsRow B e s v n xs) (hm : IsMapAt w b) : v.ownBlock ≠ some b := by
  obtain ⟨es, clk, hb⟩ := hm
  rcases h.2 with ⟨rfl, _⟩ | ⟨g, cap, cur, rfl, _, hg, _⟩
  · simp [Value.ownBlock]
  · simp only [Value.ownBlock, ne_eq, Option.some.injEq]
    rintro rfl
    rw [hb] at hg; cases hg
theorem own_kept_map {w w' : World} {B e s n b : Nat} {v : Value} {xs : List Value} (h : w.ownsRow B e s v n xs) (hm : IsMapAt w b) (hg : w.grownBy w' (some b)) : w'.ownsRow B e s v n xs :=
  h.kept hg (.inr (own_ne_map h hm))
theorem Blk.kept_map {w w' : World} {g t b : Nat} {cs : Array Value} (h : Blk w g t cs) (hm : IsMapAt w b) (hg : w.grownBy w' (some b)) : Blk w' g t cs :=
  h.grown hg (by simpa using blk_ne_map h hm)

theorem key_text (s : List Int) (h : (lineT s).size ≤ maxLen) : keyOf Tryz.prog 9 (.string (lineT s)) = some (.string (lineB s ++ [48, 10])) := by
  rw [keyOf_string Tryz.underlying9]
  simp [mapKey, Tryz.underlying9, h]
  rfl
theorem MapI.bump {w : World} {b k : Nat} {O O' : List (List Int)} {s : List Int} (h : MapI w b k O) (hk : k ≤ 2097152) (hO : ∀ z, z ∈ O' ↔ z ∈ O ∨ z = s) (hsz : (lineT s).size ≤ maxLen) :
    ∃ (c : Nat) (w' : World), c ≤ k ∧ (c = 0 ↔ s ∉ O) ∧ (Instr.lookup 126 (.map (some b)) (.string (lineT s)) false).run Tryz.prog w = .ok (.int .i64 (c : Int)) w ∧
      (Instr.mapUpdate 126 (.map (some b)) (.string (lineT s)) (.int .i64 ((c : Int) + 1))).run Tryz.prog w = .ok () w' ∧
      (Instr.lookup 126 (.map (some b)) (.string (lineT s)) false).run Tryz.prog w' = .ok (.int .i64 ((c : Int) + 1)) w' ∧ MapI w' b (k + 1) O' ∧ w.grownBy w' (some b) := by
  obtain ⟨n, D, hn, ho, hD⟩ := h
  have K := Maps.string_keyed Tryz.underlying9
  have hkey := key_text s hsz
  obtain ⟨c, hc1, hc2, hc3⟩ := hD (lineB s ++ [48, 10])
  obtain ⟨c0, hr, ha, _⟩ := ho.lookup_int K Tryz.underlying126 Tryz.underlying3 (Tryz.zeroValue3 w) hkey
  have e0 : c0 = (c : Int) := by rw [hc1] at ha; simpa using ha.symm
  subst e0
  have hw : (Lit.int .i64 ((c : Int) + 1)).wf = true := WalkArith.wf_i64 ⟨by omega, by omega⟩
  obtain ⟨w', hu, ho', ht⟩ := ho.store K Tryz.underlying126 (by simp only [maxLen]; omega) hkey (plainElem_int Tryz.underlying3 hw)
  obtain ⟨c1, hr1, ha1, _⟩ := ho'.lookup_int K Tryz.underlying126 Tryz.underlying3 (Tryz.zeroValue3 w') hkey
  have hlit : WideAt.IsKeyLit (.string (lineB s ++ [48, 10])) := trivial
  rw [Maps.atKey_put_same ho.isMap hlit] at ha1
  have e1 : c1 = (c : Int) + 1 := by simpa using ha1.symm
  subst e1
  refine ⟨c, w', hc2, ?_, hr, hu, hr1, ⟨n + 1, _, by omega, ho', fun t => ?_⟩, ht.grown⟩
  · rw [hc3]
    exact ⟨fun h hm => h s hm rfl, fun h l hl e => h (line_inj e ▸ hl)⟩
  · by_cases e : t = lineB s ++ [48, 10]
    · subst e
      refine ⟨c + 1, by rw [Maps.atKey_put_same ho.isMap hlit]; rfl, by omega, ?_⟩
      refine ⟨fun h => by omega, fun h => absurd rfl (h s ((hO s).2 (.inr rfl)))⟩
    · obtain ⟨c', a1, a2, a3⟩ := hD t
      have hne : (Lit.string t) ≠ .string (lineB s ++ [48, 10]) := fun h => e (by injection h)
      refine ⟨c', by rw [Maps.atKey_put_other hne]; exact a1, by omega, ?_⟩
      rw [a3]
      refine ⟨fun h l hl => ?_, fun h l hl => h l ((hO l).2 (.inl hl))⟩
      rcases (hO l).1 hl with h1 | rfl
      · exact h l h1
      · exact fun h => e h.symm

set_option maxHeartbeats 4000000 in
set_option maxRecDepth 1000000 in
theorem tidy_calls (n : Int) (A : Option Addr) (c : Nat) (xss : List (List Int)) (At : Option Addr) (ct : Nat) (ts : List Int) (w : World)
    (hx : RowsAt w A xss) (ht : IntsAt w At ts) (hl : xss.length ≤ 2097152) (htl : ts.length ≤ 2097152) (hxl : ∀ l ∈ xss, l.length ≤ 2097152) (hc : xss.length ≤ c) (htab : Tab w) :
    Calls Tryz.prog 38 #[.agg #[.int .i64 n, .slice A xss.length c, .slice At ts.length ct]] w fun e w' =>
      ∃ vc vt vs, e = .returned (.tuple #[.agg #[.int .i64 (if okCnf ⟨n, xss, ts⟩ then n else 0), vc, vt], .int .i64 (if okCnf ⟨n, xss, ts⟩ then 0 else 62)]) ∧
        OwnC w' w.heap.size vc vs (if okCnf ⟨n, xss, ts⟩ then tidyR xss else []) ∧ OwnI w' w.heap.size 3 vt (if okCnf ⟨n, xss, ts⟩ then ts else []) ∧ (∀ v ∈ vs, v.ownBlock ≠ vt.ownBlock) ∧ Apart vs ∧ Below w.heap.size w w' := by
  have hbW := ((Below.refl w.heap.size w).alloc (Nat.le_refl _) (.cells #[.int .i64 n, .slice A xss.length c, .slice At ts.length ct] 54)).alloc (by simp) (.cells #[.int .i64 0, .slice none 0 0, .slice none 0 0] 54)
  have hB1 := (Blk.new w 54 #[.int .i64 n, .slice A xss.length c, .slice At ts.length ct]).alloc (.cells #[.int .i64 0, .slice none 0 0, .slice none 0 0] 54)
  have hB2 := Blk.new (w.alloc (.cells #[.int .i64 n, .slice A xss.length c, .slice At ts.length ct] 54)) 54 #[.int .i64 0, .slice none 0 0, .slice none 0 0]
  have ct1 := Lib.hid (check_calls n A c xss At ct ts _ (hx.below hbW) (ht.below hbW) (by omega) (by omega) hc)
  generalize hok : okCnf ⟨n, xss, ts⟩ = ok at ct1 ⊢
  have HXw := Lib.hid hx
  have HTw := Lib.hid ht
  have HTabw := Lib.hid htab
  have HBW := Lib.hid hbW
  have HB1 := Lib.hid hB1
  have HB2 := Lib.hid hB2
  have HL := Lib.hid hxl
  have Hok := Lib.hid hok
  clear hx ht hbW hB1 hB2 hxl htab hok
  cases ok
  case false =>
    go_enter Tryz.func38, Tryz.ntmps38
    go_wp2_with fail
    go_step3
    go_wp2_with fail
    refine ct1.out.mono ?_
    rintro e w1 ⟨rfl, hb1⟩
    have Hb1 := Lib.hid (below_of HBW.out HBW.out.size hb1)
    have HB2' := Lib.hid (HB2.out.below hb1)
    have hf : ∀ i, w1.frozen? ⟨w.heap.size + 1, i, none⟩ = false := fun i => by have := HB2'.out.frozen i; simpa using this
    have hc0 : w1.cell? ⟨w.heap.size + 1, 0, none⟩ = some (.int .i64 0) := by have := HB2'.out.cell 0; simpa using this
    have hc1 : w1.cell? ⟨w.heap.size + 1, 1, none⟩ = some (.slice none 0 0) := by have := HB2'.out.cell 1; simpa using this
    have hc2 : w1.cell? ⟨w.heap.size + 1, 2, none⟩ = some (.slice none 0 0) := by have := HB2'.out.cell 2; simpa using this
    clear hb1
    go_wp2_with fail
    try rw [Exit.noGoto_ret]
    refine bodyPost_ret (v := .tuple #[.agg #[.int .i64 0, .slice none 0 0, .slice none 0 0], .int .i64 62]) (by simp [results, Tryz.results38, go_sem, hc0, hc1, hc2]) rfl ⟨_, _, [], rfl, ⟨World.ownsRow_nil _ _ _ _, All2.nil _⟩, OwnI.nil _ _ _, by simp, List.Pairwise.nil, ?_⟩
    exact ((Hb1.out.setCell (p := ⟨w.heap.size + 1, 0, none⟩) (by simp) _).setCell (p := ⟨w.heap.size + 1, 1, none⟩) (by simp) _).setCell (p := ⟨w.heap.size + 1, 2, none⟩) (by simp) _
  case true =>
    obtain ⟨⟨hv0, hv1⟩, hbd, htbd⟩ := okCnf_parts Hok.out
    have HBD := Lib.hid hbd
    have HTD := Lib.hid htbd
    clear hbd htbd Hok
    go_enter Tryz.func38, Tryz.ntmps38
    go_wp2_with fail
    go_step3
    go_wp2_with fail
    refine ct1.out.mono ?_
    rintro e w1 ⟨rfl, hb1⟩
    have Hb1 := Lib.hid (below_of HBW.out HBW.out.size hb1)
    have hs1 : w.heap.size + 2 ≤ w1.heap.size := by have := hb1.size; simp at this; omega
    have HB11 := Lib.hid (HB1.out.below hb1)
    have HB21 := Lib.hid (show Blk w1 (w.heap.size + 1) 54 #[.int .i64 0, .slice none 0 0, .slice none 0 0] by have h := HB2.out.below hb1; simpa using h)
    have hc0 : w1.cell? ⟨w.heap.size, 0, none⟩ = some (.int .i64 n) := by have := HB11.out.cell 0; simpa using this
    have hc1 : w1.cell? ⟨w.heap.size, 1, none⟩ = some (.slice A xss.length c) := by have := HB11.out.cell 1; simpa using this
    have hc2 : w1.cell? ⟨w.heap.size, 2, none⟩ = some (.slice At ts.length ct) := by have := HB11.out.cell 2; simpa using this
    clear hb1 ct1 HBW HB1 HB2
    have hmk := run_mkInts ts.length (by omega)
    have hmm : ∀ W : World, (Instr.makeMap 126 none).run Tryz.prog W = .ok (.map (some W.heap.size)) (W.alloc (.map #[] 0)) := fun W => rfl
    go_wp2_with fail
    have hA0 : ∀ o, (w1.alloc o).cell? ⟨w.heap.size, 0, none⟩ = some (.int .i64 n) := fun o => cell_kept ((Below.refl _ w1).alloc (Nat.le_refl _) o) hc0
    have hA2 : ∀ o, (w1.alloc o).cell? ⟨w.heap.size, 2, none⟩ = some (.slice At ts.length ct) := fun o => cell_kept ((Below.refl _ w1).alloc (Nat.le_refl _) o) hc2
    have hA0' : ∀ o o', ((w1.alloc o).alloc o').cell? ⟨w.heap.size, 0, none⟩ = some (.int .i64 n) := fun o o' => cell_kept ((Below.refl _ (w1.alloc o)).alloc (Nat.le_refl _) o') (hA0 o)
    have hA2' : ∀ o o', ((w1.alloc o).alloc o').cell? ⟨w.heap.size, 2, none⟩ = some (.slice At ts.length ct) := fun o o' => cell_kept ((Below.refl _ (w1.alloc o)).alloc (Nat.le_refl _) o') (hA2 o)
    go_cut [4] from 15 to 21 (fun s4 wx => ∃ b4 gt : Nat, s4 = .pointer (some ⟨b4, 0, none⟩) ∧ w.heap.size + 2 ≤ b4 ∧ Hid (Blk wx b4 54 #[.int .i64 n, .slice none 0 0, .slice (some ⟨gt, 0, none⟩) ts.length ts.length]) ∧
      Hid (wx.ownsRow w.heap.size 3 1 (.slice (some ⟨gt, 0, none⟩) ts.length ts.length) ts.length (madeCells #[.int .i64 0] ts.length).toList) ∧ Hid (Blk wx w.heap.size 54 #[.int .i64 n, .slice A xss.length c, .slice At ts.length ct]) ∧
      Hid (Blk wx (w.heap.size + 1) 54 #[.int .i64 0, .slice none 0 0, .slice none 0 0]) ∧ Hid (Below w.heap.size w wx))
    case first =>
      go_region
      all_goals (go_wp2_with fail; go_meet)
      · refine ⟨w1.heap.size + 1, w1.heap.size, rfl, by omega, ?_, (own_made w1 w.heap.size ts.length (by omega) (by omega)).alloc _, (HB11.out.alloc _).alloc _, (HB21.out.alloc _).alloc _, ((Hb1.out.alloc (by omega) _).alloc (by simp; omega) _).drew⟩
        have h := Blk.new (w1.alloc (.cells (madeCells #[.int .i64 0] ts.length) 3)) 54 #[.int .i64 n, .slice none 0 0, .slice (some ⟨w1.heap.size, 0, none⟩) ts.length ts.length]
        have h2 : Blk ((w1.alloc (.cells (madeCells #[.int .i64 0] ts.length) 3)).alloc (.cells #[.int .i64 n, .slice none 0 0, .slice (some ⟨w1.heap.size, 0, none⟩) ts.length ts.length] 54)) (w1.heap.size + 1) 54 #[.int .i64 n, .slice none 0 0, .slice (some ⟨w1.heap.size, 0, none⟩) ts.length ts.length] := by simpa using h
        exact h2
      · refine ⟨w1.heap.size, w1.heap.size + 1, rfl, by omega, ?_, ?_, (HB11.out.alloc _).alloc _, (HB21.out.alloc _).alloc _, ((Hb1.out.alloc (by omega) _).alloc (by simp; omega) _).drew⟩
        · exact (Blk.new w1 54 #[.int .i64 n, .slice none 0 0, .slice (some ⟨w1.heap.size + 1, 0, none⟩) ts.length ts.length]).alloc _
        · have h := own_made (w1.alloc (.cells #[.int .i64 n, .slice none 0 0, .slice (some ⟨w1.heap.size + 1, 0, none⟩) ts.length ts.length] 54)) w.heap.size ts.length (by simp; omega) (by omega)
          have h2 : ((w1.alloc (.cells #[.int .i64 n, .slice none 0 0, .slice (some ⟨w1.heap.size + 1, 0, none⟩) ts.length ts.length] 54)).alloc (.cells (madeCells #[.int .i64 0] ts.length) 3)).ownsRow w.heap.size 3 1 (.slice (some ⟨w1.heap.size + 1, 0, none⟩) ts.length ts.length) ts.length (madeCells #[.int .i64 0] ts.length).toList := by simpa using h
          exact h2
    case rest =>
    obtain ⟨b4, gt, rfl, hb4, HB4, HG, HB1, HB2, Hb⟩ := hcut
    clear hA0 hA2 hA0' hA2' hc0 hc1 hc2 HB11 HB21 Hb1 hmk
    obtain ⟨wo, rfl⟩ : ∃ wo : World, wo = wc := ⟨_, rfl⟩
    have hc42 : wo.cell? ⟨b4, 2, none⟩ = some (.slice (some ⟨gt, 0, none⟩) ts.length ts.length) := by have := HB4.out.cell 2; simpa using this
    have hc12 : wo.cell? ⟨w.heap.size, 2, none⟩ = some (.slice At ts.length ct) := by have := HB1.out.cell 2; simpa using this
    go_wp2_with ((
      refine wpList_copy_ints rfl (.tmp 23) (.tmp 25) rfl w.heap.size gt ts.length ct At ts _ rfl rfl HG.out ?_ ?_
      exact HTw.out.below Hb.out
      intro w3 own3 hg3
      have Ht3 := Lib.hid own3
      have HB43 := Lib.hid (Blk.grown_row HB4.out HG.out (by decide) hg3)
      have HB13 := Lib.hid (Blk.grown_row HB1.out HG.out (by decide) hg3)
      have HB23 := Lib.hid (Blk.grown_row HB2.out HG.out (by decide) hg3)
      have Hb3 := Lib.hid (Hb.out.grown hg3 Hb.out.size (fun k hk => (HG.out.lt k hk).1))
      have hc1a : (w3.alloc (.map #[] 0)).cell? ⟨w.heap.size, 1, none⟩ = some (.slice A xss.length c) := cell_kept ((Below.refl _ w3).alloc (Nat.le_refl _) _) (by have := HB13.out.cell 1; simpa using this)
      clear own3 hg3 hc42 hc12))
    have hgt : gt < w3.heap.size := (Ht3.out.lt gt rfl).2
    have hgtB : w.heap.size ≤ gt := (Ht3.out.lt gt rfl).1
    have hb4l : b4 < w3.heap.size := HB43.out.lt
    have Htm := Lib.hid (show OwnI (w3.alloc (.map #[] 0)) w.heap.size 3 (.slice (some ⟨gt, 0, none⟩) ts.length ts.length) ts from OwnI.below Ht3.out ((Below.refl _ w3).alloc (Nat.le_refl _) _))
    have HB4m := Lib.hid (HB43.out.alloc (.map #[] 0))
    have HB1m := Lib.hid (HB13.out.alloc (.map #[] 0))
    have HB2m := Lib.hid (HB23.out.alloc (.map #[] 0))
    have Hbm := Lib.hid (Hb3.out.alloc Hb3.out.size (.map #[] 0))
    have HMm := Lib.hid (MapI.new w3)
    have HbmB := Lib.hid (show w.heap.size ≤ w3.heap.size from Hb3.out.size)
    clear HG HB4 HB1 HB2 Hb Ht3 HB43 HB13 HB23 Hb3
    go_step3
    go_wp2_with fail
    generalize hbm : w3.heap.size = bm at HMm HbmB hgt hb4l ⊢
    clear hbm
    clear hc1a
    generalize hwm : w3.alloc (.map #[] 0) = wm at Htm HB4m HB1m HB2m Hbm HMm ⊢
    clear hwm
    go_loopw [31] (fun i wr => ∃ (k : Nat) (vc : Value) (vs : List Value), k ≤ xss.length ∧ i = .int .i64 k ∧ Hid (OwnC wr w.heap.size vc vs (tidyO (xss.take k))) ∧ Hid (Apart vs) ∧ Hid (∀ v ∈ vs, v.ownBlock ≠ some gt) ∧
      Hid (Blk wr b4 54 #[.int .i64 n, vc, .slice (some ⟨gt, 0, none⟩) ts.length ts.length]) ∧ Hid (OwnI wr w.heap.size 3 (.slice (some ⟨gt, 0, none⟩) ts.length ts.length) ts) ∧
      Hid (Blk wr w.heap.size 54 #[.int .i64 n, .slice A xss.length c, .slice At ts.length ct]) ∧ Hid (Blk wr (w.heap.size + 1) 54 #[.int .i64 0, .slice none 0 0, .slice none 0 0]) ∧
      Hid (MapI wr bm k (tidyO (xss.take k))) ∧ Hid (Below w.heap.size w wr)) (fun i _ => (xss.length - intOf i).toNat)
    case atStart => exact ⟨0, .slice none 0 0, [], Nat.zero_le _, rfl, ⟨World.ownsRow_nil _ _ _ _, All2.nil _⟩, List.Pairwise.nil, by simp [Hid], HB4m.out, Htm.out, HB1m.out, HB2m.out, HMm.out, Hbm.out⟩
    case round =>
      obtain ⟨k, vc, vs, hk, rfl, hown, hap, hgv, hB4, hT, hB1, hB2, hM, hb⟩ := hrel
      clear Htm HB4m HB1m HB2m Hbm HMm hgt hb4l
      obtain ⟨wo, rfl⟩ : ∃ wo : World, wo = wr := ⟨_, rfl⟩
      by_cases hlt : k < xss.length
      · obtain ⟨ad, A1, c1, l, rfl, hcell, h1, h2, Hl, Hi⟩ := (HXw.out.below hb.out).get hlt
        have Hst := Lib.hid (tidyO_take Hl.out)
        have hvl : vs.length ≤ k := by have h1 := hown.out.2.1; have h2 := tidyO_length (xss.take k); simp at h2; omega
        generalize tidyO (xss.take k) = O at hown hM Hst
        have hl1 : l.length ≤ 2097152 := HL.out l (List.mem_of_getElem? Hl.out)
        have Hbd := Lib.hid (HBD.out l (List.mem_of_getElem? Hl.out))
        have hlz : (k : Int) < xss.length := by omega
        have hmk := run_mkInts l.length (by omega)
        have Own0 := Lib.hid (own_made wo wo.heap.size l.length (Nat.le_refl _) (by omega))
        go_wp2_with ((
          refine wpList_copy_ints rfl (.tmp 38) (.tmp 39) rfl wo.heap.size wo.heap.size l.length c1 A1 l _ rfl rfl Own0.out ?_ ?_
          exact IntsAt.below Hi.out ((Below.refl _ wo).alloc (Nat.le_refl _) _)
          intro w3 own3 hg3
          have Own3 := Lib.hid own3
          have Hb3 := Lib.hid (((Below.refl wo.heap.size wo).alloc (Nat.le_refl _) (.cells (madeCells #[.int .i64 0] l.length) 3)).grown hg3 (by simp) (fun k hk => by injection hk with hk; omega))
          clear own3 hg3))
        refine (sortInts_calls wo.heap.size wo.heap.size l.length l w3 Own3.out Hbd.out (by omega)).mono ?_
        rintro e w4 ⟨rfl, ys, hyl, hym, hyp, own4, hg4⟩
        have cC := compact_calls wo.heap.size wo.heap.size l.length ys w4 (by rw [hyl]; exact own4) (by omega)
        have hcs : Lib.compact ys = sortS l := sorted_is (compact_sorted hyp).1 (fun z => by rw [(compact_sorted hyp).2, hym])
        rw [hcs, hyl] at cC
        have CC := Lib.hid cC
        have Hb4 := Lib.hid (Hb3.out.grown hg4 Hb3.out.size (fun k hk => by injection hk with hk; omega))
        have HsB := Lib.hid (show ∀ x ∈ sortS l, -1000000 ≤ x ∧ x ≤ 1000000 from fun x hx => Hbd.out x (sortS_mem l x hx))
        have hsl : (sortS l).length ≤ l.length := sortS_length l
        clear hyl hym hyp own4 hg4 cC hcs Own3 Hb3 ys Own0 hmk
        obtain ⟨s, hs⟩ : ∃ s, s = sortS l := ⟨_, rfl⟩
        rw [← hs] at CC HsB hsl
        have Hs := Lib.hid hs
        clear hs
        go_wp2_with fail
        refine CC.out.mono ?_
        rintro e w5 ⟨rfl, own5, hg5⟩
        have Own5 := Lib.hid (show OwnI w5 wo.heap.size 3 (.slice (some ⟨wo.heap.size, 0, none⟩) s.length l.length) s from own5)
        have Hb5 := Lib.hid (Hb4.out.grown hg5 Hb4.out.size (fun k hk => by injection hk with hk; omega))
        clear own5 hg5 CC Hb4
        go_wp2_with fail
        go_loopw [9] (fun i w2 => ∃ (j q : Nat), 1 ≤ j ∧ i = .int .i64 j ∧ w2 = w5.drewN q ∧ Hid (∀ i a b, i + 1 < j → s[i]? = some a → s[i + 1]? = some b → b ≠ -a)) (fun i _ => (s.length - intOf i).toNat)
        case atStart => exact ⟨1, 0, Nat.le_refl _, rfl, rfl, fun i a b h => by omega⟩
        case round =>
          obtain ⟨j, q, hj, rfl, rfl, hcl⟩ := hrel
          by_cases hlt2 : j < s.length
          · obtain ⟨p, hp⟩ : ∃ p : Nat, p + 1 = j := ⟨j - 1, by omega⟩
            have hlz2 : (j : Int) < s.length := by omega
            have hlzp : (p : Int) < s.length := by omega
            have hw1 : IntKind.i64.wrap ((j : Int) - 1) = (p : Int) := by rw [IntWalk.i64_in _ (by omega)]; omega
            have hw2 : wrap64 ((j : Int) - 1) = (p : Int) := by unfold wrap64; omega
            have hw3 : (j : Int) - 1 = (p : Int) := by omega
            have Hx := Lib.hid (List.getElem?_eq_getElem hlt2)
            have Hy := Lib.hid (List.getElem?_eq_getElem (show p < s.length by omega))
            generalize s[j] = x at Hx
            generalize s[p] = y at Hy
            obtain ⟨x0, x1⟩ := HsB.out x (List.mem_of_getElem? Hx.out)
            obtain ⟨y0, y1⟩ := HsB.out y (List.mem_of_getElem? Hy.out)
            have hcx : w5.cell? ⟨wo.heap.size, j, none⟩ = some (.int .i64 x) := own_at Own5.out (by rw [List.getElem?_map, Hx.out]; rfl)
            have hcy : w5.cell? ⟨wo.heap.size, p, none⟩ = some (.int .i64 y) := own_at Own5.out (by rw [List.getElem?_map, Hy.out]; rfl)
            have hng : IntKind.i64.wrap (-y) = -y := IntWalk.i64_in _ (by omega)
            have Hp := Lib.hid hp
            clear hp
            by_cases hxy : x = -y
            · have b1 : (x == -y) = true := beq_iff_eq.2 hxy
              have Hs2 := Lib.hid (show tidyO (xss.take (k + 1)) = O by
                rw [Hst.out]; refine addO_skip ?_; rw [← Hs.out]; exact taut_true Hy.out (by rw [Hp.out]; exact Hx.out) hxy)
              clear hxy
              go_wp2_with fail
              go_quiet (fail)
              go_wp2_with fail
              have Hbq := Lib.hid (below_drewN Hb5.out (q + nq))
              exact ⟨⟨k + 1, vc, vs, by omega, by go_num, by rw [Hs2.out]; exact hown.out.below Hbq.out, hap, hgv, hB4.out.below Hbq.out, OwnI.below hT.out Hbq.out, hB1.out.below Hbq.out, hB2.out.below Hbq.out,
                by rw [Hs2.out]; exact (hM.out.below Hbq.out).mono (by omega), below_of hb.out hb.out.size Hbq.out⟩, by simp [intOf]; omega⟩
            · have b1 : (x == -y) = false := beq_eq_false_iff_ne.2 hxy
              have Hcl := Lib.hid (show ∀ i a b, i + 1 < j + 1 → s[i]? = some a → s[i + 1]? = some b → b ≠ -a from fun i a b hi ha hb => by
                rcases Nat.lt_or_ge (i + 1) j with h | h
                · exact hcl.out i a b h ha hb
                · have e1 : i + 1 = j := by omega
                  have e2 : i = p := by have := Hp.out; omega
                  rw [e1, Hx.out] at hb
                  rw [e2, Hy.out] at ha
                  injection ha with ha; injection hb with hb
                  subst ha; subst hb
                  exact hxy)
              clear hxy
              go_wp2_with fail
              go_quiet (fail)
              go_wp2_with fail
              exact ⟨⟨j + 1, _, by omega, by go_num, by first | rfl | (simp only [World.drewN_drewN]; rfl), Hcl⟩, by simp [intOf]; omega⟩
          · have Htf := Lib.hid (show taut (sortS l) = false by
              rw [← Hs.out]
              exact taut_false fun i a b ha hb => hcl.out i a b (by have := (List.getElem?_eq_some_iff.1 hb).1; omega) ha hb)
            have hI : IntsAt (w5.drewN q) (some ⟨wo.heap.size, 0, none⟩) s := .inr ⟨_, rfl, Own5.out.cells (g := wo.heap.size) rfl⟩
            have Hbq := Lib.hid (below_drewN Hb5.out q)
            have hline := Lib.hid (line_calls (some ⟨wo.heap.size, 0, none⟩) l.length s (w5.drewN q) hI (by omega) HsB.out (HTabw.out.below (below_of hb.out hb.out.size Hbq.out)))
            have Own5q := Lib.hid (show OwnI (w5.drewN q) wo.heap.size 3 (.slice (some ⟨wo.heap.size, 0, none⟩) s.length l.length) s from Own5.out)
            have hszl : (lineT s).size ≤ maxLen := by have h := lineB_length s HsB.out; show (lineB s ++ [48, 10]).length ≤ maxLen; simp only [List.length_append, List.length_cons, List.length_nil, maxLen]; omega
            clear hI hcl
            go_wp2_with fail
            refine hline.out.mono ?_
            rintro e w6 ⟨rfl, hb6⟩
            have Hb6 := Lib.hid (below_of Hbq.out Hbq.out.size hb6)
            have Own6 := Lib.hid (OwnI.lower (OwnI.below Own5q.out hb6) (show w.heap.size ≤ wo.heap.size from hb.out.size))
            have hown6 := Lib.hid (hown.out.below Hb6.out)
            have hB46 := Lib.hid (hB4.out.below Hb6.out)
            have hT6 := Lib.hid (OwnI.below hT.out Hb6.out)
            have hB16 := Lib.hid (hB1.out.below Hb6.out)
            have hB26 := Lib.hid (hB2.out.below Hb6.out)
            have hM6 := Lib.hid (hM.out.below Hb6.out)
            have hb66 := Lib.hid (below_of hb.out hb.out.size Hb6.out)
            have hgtl : gt < wo.heap.size := (hT.out.lt gt rfl).2
            have Hvlt := Lib.hid (show ∀ v ∈ vs, ∀ g, v.ownBlock = some g → g < wo.heap.size from fun v hv g hg => by
              obtain ⟨i, hi, e⟩ := List.mem_iff_getElem.1 hv
              obtain ⟨u, y, hu, hy, hr⟩ := hown.out.2.get (k := i) (by rw [← hown.out.2.1]; exact hi)
              rw [List.getElem?_eq_getElem hi, e] at hu
              injection hu with hu
              subst hu
              exact (World.ownsRow.lt hr g hg).2)
            clear hb6 Hbq hline Own5q Own5 Hb5 hown hB4 hT hB1 hB2 hM hb Hb6
            by_cases hin : s ∈ O
            · obtain ⟨cc, w7, hcc, hc0, hl1, hu, hl2, hM7, hg7⟩ := hM6.out.bump (O' := O) (s := s) (by omega) (fun z => ⟨.inl, fun h => h.elim id (fun e => e ▸ hin)⟩) hszl
              have hne : cc ≠ 0 := fun e => (hc0.1 e) hin
              have b1 : ((cc : Int) + 1 == 1) = false := beq_eq_false_iff_ne.2 (by omega)
              have hw1 : IntKind.i64.wrap ((cc : Int) + 1) = (cc : Int) + 1 := IntWalk.i64_in _ (by omega)
              have Hs2 := Lib.hid (show tidyO (xss.take (k + 1)) = O by rw [Hst.out]; exact addO_old Htf.out (by rw [← Hs.out]; exact hin))
              have hm := hM6.out.at_
              have F1 := Lib.hid (show OwnC w7 w.heap.size vc vs O from ⟨own_kept_map hown6.out.1 hm hg7, hown6.out.2.imp fun _ _ _ _ h => own_kept_map h hm hg7⟩)
              have F2 := Lib.hid (hB46.out.kept_map hm hg7)
              have F3 := Lib.hid (show OwnI w7 w.heap.size 3 (.slice (some ⟨gt, 0, none⟩) ts.length ts.length) ts from own_kept_map hT6.out hm hg7)
              have F4 := Lib.hid (hB16.out.kept_map hm hg7)
              have F5 := Lib.hid (hB26.out.kept_map hm hg7)
              have F6 := Lib.hid hM7
              have F7 := Lib.hid (hb66.out.grown hg7 hb66.out.size (fun k hk => by injection hk with hk; rw [← hk]; exact HbmB.out))
              clear hne hc0 hM7 hg7 hm hin
              go_wp2_with fail
              exact ⟨⟨k + 1, vc, vs, by omega, by go_num, by rw [Hs2.out]; exact F1.out, hap, hgv, F2.out, F3.out, F4.out, F5.out, by rw [Hs2.out]; exact F6.out, F7.out⟩, by simp [intOf]; omega⟩
            · obtain ⟨cc, w7, hcc, hc0, hl1, hu, hl2, hM7, hg7⟩ := hM6.out.bump (O' := O ++ [s]) (s := s) (by omega) (fun z => by rw [List.mem_append, List.mem_singleton]) hszl
              have hz : cc = 0 := hc0.2 hin
              have b1 : ((cc : Int) + 1 == 1) = true := beq_iff_eq.2 (by omega)
              have hw1 : IntKind.i64.wrap ((cc : Int) + 1) = (cc : Int) + 1 := IntWalk.i64_in _ (by omega)
              have Hs2 := Lib.hid (show tidyO (xss.take (k + 1)) = O ++ [s] by rw [Hst.out, addO_new Htf.out (by rw [← Hs.out]; exact hin), ← Hs.out])
              have hm := hM6.out.at_
              have F1 := Lib.hid (show OwnC w7 w.heap.size vc vs O from ⟨own_kept_map hown6.out.1 hm hg7, hown6.out.2.imp fun _ _ _ _ h => own_kept_map h hm hg7⟩)
              have F2 := Lib.hid (hB46.out.kept_map hm hg7)
              have F3 := Lib.hid (show OwnI w7 w.heap.size 3 (.slice (some ⟨gt, 0, none⟩) ts.length ts.length) ts from own_kept_map hT6.out hm hg7)
              have F4 := Lib.hid (hB16.out.kept_map hm hg7)
              have F5 := Lib.hid (hB26.out.kept_map hm hg7)
              have F6 := Lib.hid hM7
              have F7 := Lib.hid (hb66.out.grown hg7 hb66.out.size (fun k hk => by injection hk with hk; rw [← hk]; exact HbmB.out))
              have F8 := Lib.hid (show OwnI w7 w.heap.size 3 (.slice (some ⟨wo.heap.size, 0, none⟩) s.length l.length) s from own_kept_map Own6.out hm hg7)
              have hd7 : w7.cell? ⟨b4, 1, none⟩ = some vc := by have := F2.out.cell 1; simpa using this
              have hd8 : (w7.alloc (.cells #[.slice (some ⟨wo.heap.size, 0, none⟩) s.length l.length] 25)).cell? ⟨b4, 1, none⟩ = some vc := cell_kept ((Below.refl _ w7).alloc (Nat.le_refl _) _) hd7
              clear hz hc0 hM7 hg7 hm hin Own6 hown6 hB46 hT6 hB16 hB26 hM6 hb66
              go_wp2_with ((
                at_builtin
                refine app1 (w0 := w) w.heap.size rfl (.tmp 73) (.tmp 75) 29 25 (.slice none 0 0) 24 rfl Tryz.underlying29 info_ints rfl vc vs.length vs (.slice (some ⟨wo.heap.size, 0, none⟩) s.length l.length) rfl rfl rfl (by exact F1.out.1) (by exact F7.out) (by exact F7.out.size) (by omega) (by omega) ?_
                intro v1 w8 own8 hb8 hg8 hat8
                have G1 := Lib.hid (show All2 (fun u l => OwnI w8 w.heap.size 3 u l) (vs ++ [.slice (some ⟨wo.heap.size, 0, none⟩) s.length l.length]) (O ++ [s]) from (F1.out.2.imp fun _ _ _ _ h => own_grown_row h F1.out.1 (by decide) hg8).snoc (own_grown_row F8.out F1.out.1 (by decide) hg8))
                have G2 := Lib.hid (Blk.grown_row F2.out F1.out.1 (by decide) hg8)
                have G3 := Lib.hid (show OwnI w8 w.heap.size 3 (.slice (some ⟨gt, 0, none⟩) ts.length ts.length) ts from own_grown_row F3.out F1.out.1 (by decide) hg8)
                have G4 := Lib.hid (Blk.grown_row F4.out F1.out.1 (by decide) hg8)
                have G5 := Lib.hid (Blk.grown_row F5.out F1.out.1 (by decide) hg8)
                have G6 := Lib.hid (F6.out.grown hg8 (own_ne_map F1.out.1 F6.out.at_).symm)
                have hd9 : w8.cell? ⟨b4, 1, none⟩ = some vc := by have := G2.out.cell 1; simpa using this
                have hf9 : w8.frozen? ⟨b4, 1, none⟩ = false := G2.out.frozen 1
                obtain ⟨g, cap, rfl, hgB, hgs⟩ := own8.form (by omega)
                have Own8 := Lib.hid own8
                have Hb8 := Lib.hid hb8
                clear own8 hb8 hg8 hat8))
              have U2 := Lib.hid (show Blk (w8.setCell ⟨b4, 1, none⟩ (.slice (some ⟨g, 0, none⟩) (vs.length + 1) cap)) b4 54 #[.int .i64 n, .slice (some ⟨g, 0, none⟩) (vs.length + 1) cap, .slice (some ⟨gt, 0, none⟩) ts.length ts.length] from by
                have h := G2.out.set_ 1 (.slice (some ⟨g, 0, none⟩) (vs.length + 1) cap); simpa using h)
              have U1 := Lib.hid (show OwnC (w8.setCell ⟨b4, 1, none⟩ (.slice (some ⟨g, 0, none⟩) (vs.length + 1) cap)) w.heap.size (.slice (some ⟨g, 0, none⟩) (vs.length + 1) cap) (vs ++ [.slice (some ⟨wo.heap.size, 0, none⟩) s.length l.length]) (O ++ [s]) from by
                refine ⟨?_, G1.out.imp fun _ _ _ _ h => own_setCell_blk h G2.out (by decide) 1 _⟩
                rw [List.length_append]
                exact own_setCell_blk Own8.out G2.out (by decide) 1 _)
              have U3 := Lib.hid (show Apart (vs ++ [.slice (some ⟨wo.heap.size, 0, none⟩) s.length l.length]) from by
                unfold Apart
                rw [List.pairwise_append]
                refine ⟨hap.out, List.pairwise_singleton _ _, fun a ha b hb e => ?_⟩
                rw [List.mem_singleton] at hb
                subst hb
                have := Hvlt.out a ha wo.heap.size e
                omega)
              have U4 := Lib.hid (show ∀ v ∈ vs ++ [.slice (some ⟨wo.heap.size, 0, none⟩) s.length l.length], v.ownBlock ≠ some gt from by
                intro v hv
                rw [List.mem_append, List.mem_singleton] at hv
                rcases hv with hv | rfl
                · exact hgv.out v hv
                · simp only [Value.ownBlock, ne_eq, Option.some.injEq]; omega)
              go_wp2_with fail
              exact ⟨⟨k + 1, _, _, by omega, by go_num, by rw [Hs2.out]; exact U1.out, U3.out, U4.out, U2.out, own_setCell_blk G3.out G2.out (by decide) 1 _, G4.out.far (p := ⟨b4, 1, none⟩) (by simp; omega) _, G5.out.far (p := ⟨b4, 1, none⟩) (by simp; omega) _,
                by rw [Hs2.out]; exact G6.out.setCell (a := ⟨b4, 1, none⟩) (by have := blk_ne_map G2.out G6.out.at_; simpa using this.symm) _, Hb8.out.setCell (p := ⟨b4, 1, none⟩) (by simp; omega) _⟩, by simp [intOf]; omega⟩
      · have Hkk := Lib.hid (show xss.take k = xss from List.take_of_length_le (by omega))
        have hvl : vs.length ≤ k := by have h1 := hown.out.2.1; have h2 := tidyO_length (xss.take k); simp at h2; omega
        have hown' := Lib.hid (show OwnC wo w.heap.size vc vs (tidyO xss) by have h := hown.out; rwa [Hkk.out] at h)
        have hc41 : wo.cell? ⟨b4, 1, none⟩ = some vc := by have := hB4.out.cell 1; simpa using this
        clear hown
        rcases hown'.out.1.2 with ⟨rfl, hv0⟩ | ⟨g, cap, cur, rfl, hgB, hgh, _⟩
        · have hvs : vs = [] := List.eq_nil_of_length_eq_zero (by simpa using hv0)
          subst hvs
          have Hnil := Lib.hid (show tidyR xss = [] by
            have h1 := hown'.out.2.1
            have h2 : tidyO xss = [] := List.eq_nil_of_length_eq_zero (by simpa using h1.symm)
            exact (tidy_sorted (xss := xss) (R := []) (by rw [h2]) List.Pairwise.nil).symm)
          have cS := Lib.hid (sortNil_calls (.func (.func 75) #[] #[]) wo)
          go_wp2_with fail
          refine cS.out.mono ?_
          rintro e w4 ⟨rfl, rfl⟩
          obtain ⟨w4, rfl⟩ : ∃ w4 : World, w4 = wo := ⟨_, rfl⟩
          have HO := Lib.hid (show OwnC w4 w.heap.size (.slice none 0 0) [] (tidyR xss) by rw [Hnil.out]; exact ⟨World.ownsRow_nil _ _ _ _, All2.nil _⟩)
          have HB4 := hB4
          have HB2 := hB2
          have HT := hT
          have Hb := hb
          have Hap := Lib.hid (show Apart [] from List.Pairwise.nil)
          have Hgv := Lib.hid (show ∀ v ∈ ([] : List Value), v.ownBlock ≠ some gt by simp)
          clear hc41

          obtain ⟨Av, cv, hvc, _, _, _⟩ := CellsAt.of_own HO.out.1
          have Hvc := Lib.hid hvc
          clear hvc
          have hc40 : w4.cell? ⟨b4, 0, none⟩ = some (.int .i64 n) := by have := HB4.out.cell 0; simpa using this
          have hc41 : w4.cell? ⟨b4, 1, none⟩ = some (.slice none 0 0) := by have := HB4.out.cell 1; simpa using this
          have hc42 : w4.cell? ⟨b4, 2, none⟩ = some (.slice (some ⟨gt, 0, none⟩) ts.length ts.length) := by have := HB4.out.cell 2; simpa using this
          have hc20 : w4.cell? ⟨w.heap.size + 1, 0, none⟩ = some (.int .i64 0) := by have := HB2.out.cell 0; simpa using this
          have hc21 : w4.cell? ⟨w.heap.size + 1, 1, none⟩ = some (.slice none 0 0) := by have := HB2.out.cell 1; simpa using this
          have hc22 : w4.cell? ⟨w.heap.size + 1, 2, none⟩ = some (.slice none 0 0) := by have := HB2.out.cell 2; simpa using this
          have hf2 : ∀ i, w4.frozen? ⟨w.heap.size + 1, i, none⟩ = false := fun i => HB2.out.frozen i
          have HB2a := Lib.hid (HB2.out.set_ 0 (.int .i64 n))
          have HB2b := Lib.hid (HB2a.out.set_ 1 (.slice none 0 0))
          have HB2c := Lib.hid (HB2b.out.set_ 2 (.slice (some ⟨gt, 0, none⟩) ts.length ts.length))
          have HO2 := Lib.hid (((HO.out.set_blk HB2.out (by decide) (by decide) 0 (.int .i64 n)).set_blk HB2a.out (by decide) (by decide) 1 (.slice none 0 0)).set_blk HB2b.out (by decide) (by decide) 2 (.slice (some ⟨gt, 0, none⟩) ts.length ts.length))
          have HT2 := Lib.hid (own_setCell_blk (own_setCell_blk (own_setCell_blk HT.out HB2.out (by decide) 0 (.int .i64 n)) HB2a.out (by decide) 1 (.slice none 0 0)) HB2b.out (by decide) 2 (.slice (some ⟨gt, 0, none⟩) ts.length ts.length))
          have Hbf := Lib.hid (((Hb.out.setCell (p := ⟨w.heap.size + 1, 0, none⟩) (by simp) (.int .i64 n)).setCell (p := ⟨w.heap.size + 1, 1, none⟩) (by simp) (.slice none 0 0)).setCell (p := ⟨w.heap.size + 1, 2, none⟩) (by simp) (.slice (some ⟨gt, 0, none⟩) ts.length ts.length))
          go_wp2_with fail
          try rw [Exit.noGoto_ret]
          have HC := HB2c.out
          refine bodyPost_ret (v := .tuple #[.agg #[.int .i64 n, .slice none 0 0, .slice (some ⟨gt, 0, none⟩) ts.length ts.length], .int .i64 0]) (by simp [results, Tryz.results38, go_sem, hc20, hc21, hc22]) rfl ⟨_, _, _, rfl, HO2.out, HT2.out, Hgv.out, Hap.out, Hbf.out⟩
        · have cS := Lib.hid (sortRows_calls w.heap.size g cap vs (tidyO xss) wo hown'.out (fun z hz => by
            obtain ⟨l, hl, _, rfl⟩ := (tidyO_mem xss z).1 hz
            have h1 := HL.out l hl
            have h2 := sortS_length l
            exact ⟨fun x hx => HBD.out l hl x (sortS_mem l x hx), by omega⟩) (by omega))
          have hOw := hown'.out.1
          have HM := hM
          go_wp2_with fail
          refine cS.out.mono ?_
          rintro e w4 ⟨rfl, vs', R', hvl', hO4, hperm, _, hR, hsR, hg4⟩
          have HO := Lib.hid (show OwnC w4 w.heap.size (.slice (some ⟨g, 0, none⟩) vs.length cap) vs' (tidyR xss) by rw [← tidy_sorted hR hsR]; exact hO4)
          have HB4 := Lib.hid (Blk.grown_row hB4.out hOw (by decide) hg4)
          have HB2 := Lib.hid (Blk.grown_row hB2.out hOw (by decide) hg4)
          have HT := Lib.hid (show OwnI w4 w.heap.size 3 (.slice (some ⟨gt, 0, none⟩) ts.length ts.length) ts from own_grown_row hT.out hOw (by decide) hg4)
          have Hb := Lib.hid (hb.out.grown hg4 hb.out.size (fun k hk => by injection hk with hk; rw [← hk]; exact hgB))
          have Hap := Lib.hid (show Apart vs' from (hperm.pairwise_iff (fun h => h.symm)).2 hap.out)
          have Hgv := Lib.hid (show ∀ v ∈ vs', v.ownBlock ≠ some gt from fun v hv => hgv.out v (hperm.mem_iff.1 hv))
          clear hvl' hO4 hperm hR hsR hg4 hOw hc41 cS

          obtain ⟨Av, cv, hvc, _, _, _⟩ := CellsAt.of_own HO.out.1
          have Hvc := Lib.hid hvc
          clear hvc
          have hc40 : w4.cell? ⟨b4, 0, none⟩ = some (.int .i64 n) := by have := HB4.out.cell 0; simpa using this
          have hc41 : w4.cell? ⟨b4, 1, none⟩ = some (.slice (some ⟨g, 0, none⟩) vs.length cap) := by have := HB4.out.cell 1; simpa using this
          have hc42 : w4.cell? ⟨b4, 2, none⟩ = some (.slice (some ⟨gt, 0, none⟩) ts.length ts.length) := by have := HB4.out.cell 2; simpa using this
          have hc20 : w4.cell? ⟨w.heap.size + 1, 0, none⟩ = some (.int .i64 0) := by have := HB2.out.cell 0; simpa using this
          have hc21 : w4.cell? ⟨w.heap.size + 1, 1, none⟩ = some (.slice none 0 0) := by have := HB2.out.cell 1; simpa using this
          have hc22 : w4.cell? ⟨w.heap.size + 1, 2, none⟩ = some (.slice none 0 0) := by have := HB2.out.cell 2; simpa using this
          have hf2 : ∀ i, w4.frozen? ⟨w.heap.size + 1, i, none⟩ = false := fun i => HB2.out.frozen i
          have HB2a := Lib.hid (HB2.out.set_ 0 (.int .i64 n))
          have HB2b := Lib.hid (HB2a.out.set_ 1 (.slice (some ⟨g, 0, none⟩) vs.length cap))
          have HB2c := Lib.hid (HB2b.out.set_ 2 (.slice (some ⟨gt, 0, none⟩) ts.length ts.length))
          have HO2 := Lib.hid (((HO.out.set_blk HB2.out (by decide) (by decide) 0 (.int .i64 n)).set_blk HB2a.out (by decide) (by decide) 1 (.slice (some ⟨g, 0, none⟩) vs.length cap)).set_blk HB2b.out (by decide) (by decide) 2 (.slice (some ⟨gt, 0, none⟩) ts.length ts.length))
          have HT2 := Lib.hid (own_setCell_blk (own_setCell_blk (own_setCell_blk HT.out HB2.out (by decide) 0 (.int .i64 n)) HB2a.out (by decide) 1 (.slice (some ⟨g, 0, none⟩) vs.length cap)) HB2b.out (by decide) 2 (.slice (some ⟨gt, 0, none⟩) ts.length ts.length))
          have Hbf := Lib.hid (((Hb.out.setCell (p := ⟨w.heap.size + 1, 0, none⟩) (by simp) (.int .i64 n)).setCell (p := ⟨w.heap.size + 1, 1, none⟩) (by simp) (.slice (some ⟨g, 0, none⟩) vs.length cap)).setCell (p := ⟨w.heap.size + 1, 2, none⟩) (by simp) (.slice (some ⟨gt, 0, none⟩) ts.length ts.length))
          go_wp2_with fail
          try rw [Exit.noGoto_ret]
          have HC := HB2c.out
          refine bodyPost_ret (v := .tuple #[.agg #[.int .i64 n, .slice (some ⟨g, 0, none⟩) vs.length cap, .slice (some ⟨gt, 0, none⟩) ts.length ts.length], .int .i64 0]) (by simp [results, Tryz.results38, go_sem, hc20, hc21, hc22]) rfl ⟨_, _, _, rfl, HO2.out, HT2.out, Hgv.out, Hap.out, Hbf.out⟩

end Go.Proofs.YtnadmnhkfdkafaaGreatDoor
