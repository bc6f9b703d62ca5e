/- Contracts: (*words).next of the program's reader: the word behind a place. -/
import Derived.Test.YtnadmnhkfdkafaaGreatDoorRdNum
import Derived.Test.YtnadmnhkfdkafaaGreatDoorBlk
namespace Go.Proofs.YtnadmnhkfdkafaaGreatDoor
open Go.RowKit
set_option linter.unusedVariables false
set_option linter.unusedSimpArgs false

theorem any_calls (s cs : ByteArray) (i : Nat) (p : UInt8 → Bool) (W : World) (hs : s.size ≤ 1048576) (hi : i ≤ s.size) (h2 : 2 ≤ cs.size) (hcs : cs.size ≤ 1048576) (ha : ∀ (j : Nat) b, cs.data.toList[j]? = some b → b.toNat < 128) (hp : ∀ b, cs.data.toList.contains b = p b) :
    Calls Tryz.prog 140 #[.string (s.extract i s.size), .string cs] W fun e w' => (∃ v : Int, e = .returned (.int .i64 v) ∧ ((v < 0 ∧ scan p s.data.toList i = s.size) ∨ (0 ≤ v ∧ (i : Int) + v = scan p s.data.toList i))) ∧ Below W.heap.size W w' := by
  have hsz : (s.extract i s.size).size = s.size - i := by simp
  refine (indexAny_calls (s.extract i s.size) cs W h2 hcs (by omega) ha).mono ?_
  rintro e w' ⟨rfl, hb⟩
  refine ⟨⟨_, rfl, ?_⟩, hb⟩
  have h := scanL_indexAny cs.data.toList (s.extract i s.size).data.toList
  have hp' : cs.data.toList.contains = p := funext hp
  rw [hp', Lib.extract_to_end, List.length_drop, ← Lib.size_eq] at h
  rw [Lib.extract_to_end]
  unfold scan
  split at h
  · left; omega
  · right; omega

theorem take_white (b : UInt8) : (decide (Lib.indexByte [32, 9, 13, 10] b < 0)) = !whiteB b := by
  rw [← contains_white, Lib.contains_iff_indexByte, ← decide_not]
  exact decide_eq_decide.2 (by omega)

/-- a write into the block p, and new blocks -/
theorem Blk.wrote {w : World} {p T : Nat} {cs : Array Value} (h : Blk w p T cs) (i : Nat) (u : Value) : w.grownBy (w.setCell ⟨p, i, none⟩ u) (some p) :=
  ⟨rfl, rfl, rfl, by simp [World.setCell], fun k _ hk => Below.heap_setCell w _ u k (fun e => hk (by rw [e]))⟩
theorem grown_below {w w' : World} {r : Option Nat} (h : Below w.heap.size w w') : w.grownBy w' r := ⟨h.os, h.tape, h.output, h.size, fun k hk _ => h.block k hk⟩
theorem grown_trans {a b c : World} {r : Option Nat} (h : a.grownBy b r) (k : b.grownBy c r) : a.grownBy c r := World.grownBy.trans h k
theorem below_grown {a b : World} {B p : Nat} (h : a.grownBy b (some p)) (hB : B ≤ p) (hs : B ≤ a.heap.size) : Below B a b :=
  ⟨h.os, h.tape, h.output, h.size, fun k hk => h.block k (Nat.lt_of_lt_of_le hk hs) (fun e => by injection e with e; omega)⟩

theorem grown_drewN {w w' : World} {r : Option Nat} (h : w.grownBy w' r) (k : Nat) : w.grownBy (w'.drewN k) r := ⟨h.os, h.tape, h.output, h.size, h.block⟩
theorem Blk.at1 {w : World} {p T : Nat} {a b c : Value} (h : Blk w p T #[a, b, c]) {u u' : Value} (hu : u = u') : Blk (w.setCell ⟨p, 1, none⟩ u) p T #[a, u', c] := by
  subst hu; exact h.set_ 1 u
theorem Blk.at2 {w : World} {p T : Nat} {a b c : Value} (h : Blk w p T #[a, b, c]) {u u' : Value} (hu : u = u') : Blk (w.setCell ⟨p, 2, none⟩ u) p T #[a, b, u'] := by
  subst hu; exact h.set_ 2 u
theorem i64_eq {a b : Int} (h : a = b) : Value.int .i64 a = .int .i64 b := by rw [h]
/-- the tests for a comment, in the walk's spelling -/
theorem cmt_yes {s : ByteArray} {i : Nat} {x : UInt8} (hi : i < s.size) (hx : s[i]'hi = x) (h : cmt s.data.toList i = true) :
    ((x.toNat : Int) == 99) = true ∧ (((i : Int) == 0) = true ∨ (∃ (j : Nat) (hj : j < s.size), j + 1 = i ∧ ((i : Int) == 0) = false ∧ ((((s[j]'hj).toNat : Int) == 10) = true ∨ ((((s[j]'hj).toNat : Int) == 10) = false ∧ (((s[j]'hj).toNat : Int) == 13) = true)))) := by
  have hx' : s.data.toList[i]? = some x := by rw [← hx]; exact Lib.data_getElem? s i hi
  have h9 := cmt_c h
  rw [hx'] at h9
  injection h9 with h9
  refine ⟨by rw [h9]; rfl, ?_⟩
  by_cases h0 : i = 0
  · left; rw [beq_iff_eq]; omega
  · right
    have hj : i - 1 < s.size := by omega
    refine ⟨i - 1, hj, by omega, beq_eq_false_iff_ne.2 (by omega), ?_⟩
    unfold cmt at h
    rw [Lib.data_getElem? s (i - 1) hj] at h
    simp only [Bool.and_eq_true, Bool.or_eq_true, beq_iff_eq] at h
    rcases h.2 with h2 | h2
    · exact absurd h2 h0
    · unfold eolB at h2
      simp only [Bool.or_eq_true, beq_iff_eq] at h2
      rcases h2 with h2 | h2
      · left; rw [h2]; rfl
      · right; rw [h2]; exact ⟨rfl, rfl⟩
theorem cmt_no {s : ByteArray} {i : Nat} {x : UInt8} (hi : i < s.size) (hx : s[i]'hi = x) (h : cmt s.data.toList i = false) :
    ((x.toNat : Int) == 99) = false ∨ (((x.toNat : Int) == 99) = true ∧ ((i : Int) == 0) = false ∧ ∃ (j : Nat) (hj : j < s.size), j + 1 = i ∧ (((s[j]'hj).toNat : Int) == 10) = false ∧ (((s[j]'hj).toNat : Int) == 13) = false) := by
  have hx' : s.data.toList[i]? = some x := by rw [← hx]; exact Lib.data_getElem? s i hi
  have un : ∀ (y : UInt8) (k : Nat), k < 256 → (((y.toNat : Int) == k) = true ↔ y = UInt8.ofNat k) := fun y k hk => by
    rw [beq_iff_eq, ← UInt8.toNat_inj]
    simp
    omega
  unfold cmt at h
  rw [hx'] at h
  by_cases hx9 : x = 99
  · right
    have h0 : i ≠ 0 := by rintro rfl; rw [hx9] at h; simp at h
    have hj : i - 1 < s.size := by omega
    refine ⟨by rw [hx9]; rfl, beq_eq_false_iff_ne.2 (by omega), i - 1, hj, by omega, ?_⟩
    rw [Lib.data_getElem? s (i - 1) hj, hx9] at h
    have h2 : eolB (s[i - 1]'hj) = false := by simpa [h0] using h
    unfold eolB at h2
    rw [Bool.or_eq_false_iff] at h2
    constructor
    · rw [Bool.eq_false_iff]
      intro h3
      rw [(un _ 10 (by omega)).1 h3] at h2
      simp at h2
    · rw [Bool.eq_false_iff]
      intro h3
      rw [(un _ 13 (by omega)).1 h3] at h2
      simp at h2
  · left
    rw [Bool.eq_false_iff]
    intro h3
    exact hx9 ((un _ 99 (by omega)).1 h3)

set_option maxHeartbeats 16000000 in
set_option maxRecDepth 100000 in
theorem next_calls (p : Nat) (s : ByteArray) (a : Nat) (f : Int) (w : World) (hB : Blk w p 174 #[.string s, .int .i64 a, .int .i64 f]) (hs : s.size ≤ 1048576) (ha : a ≤ s.size) :
    Calls Tryz.prog 109 #[.pointer (some ⟨p, 0, none⟩)] w fun e w' =>
      e = .returned (.string (s.extract (skip s.data.toList a) (scan whiteB s.data.toList (skip s.data.toList a)))) ∧
      Blk w' p 174 #[.string s, .int .i64 (scan whiteB s.data.toList (skip s.data.toList a) : Nat), .int .i64 (skip s.data.toList a : Nat)] ∧ w.grownBy w' (some p) := by
  have HB := Lib.hid hB
  clear hB
  generalize hsk : skip s.data.toList a = sk
  generalize hte : scan whiteB s.data.toList sk = te
  have Hsk := Lib.hid hsk
  have Hte := Lib.hid hte
  clear hsk hte
  have hsz := Lib.size_eq s
  have Hsz := Lib.hid hsz
  clear hsz
  have ct0 : w.cell? ⟨p, 0, none⟩ = some (.string s) := by have := HB.out.cell 0; simpa using this
  go_enter Tryz.func109, Tryz.ntmps109
  go_wp2_with fail
  go_loopg [] (s.size - a) (fun g wx => ∃ i : Nat, i ≤ s.size ∧ s.size ≤ i + g ∧ Hid (Blk wx p 174 #[.string s, .int .i64 i, .int .i64 f]) ∧ Hid (w.grownBy wx (some p)) ∧ Hid (skip s.data.toList i = sk))
  case atStart => exact ⟨a, ha, by omega, HB.out, World.grownBy.refl _ _, Hsk.out⟩
  case round =>
    obtain ⟨i, hi, hig, HK, HG, HS⟩ := hrel
    clear ct0
    have c0 : wr.cell? ⟨p, 0, none⟩ = some (.string s) := by have := HK.out.cell 0; simpa using this
    have c1 : wr.cell? ⟨p, 1, none⟩ = some (.int .i64 i) := by have := HK.out.cell 1; simpa using this
    have z1 : wr.frozen? ⟨p, 1, none⟩ = false := HK.out.frozen 1
    by_cases hlt : i < s.size
    · obtain ⟨x, hx⟩ : ∃ x : UInt8, s[i]'hlt = x := ⟨_, rfl⟩
      have Hx := Lib.hid (show s.data.toList[i]? = some x by rw [← hx]; exact Lib.data_getElem? s i hlt)
      have hiz : (i : Int) < (s.size : Int) := by omega
      cases hc : cmt s.data.toList i with
      | true =>
        obtain ⟨b1, hT⟩ := cmt_yes hlt hx hc
        have HS2 := Lib.hid (show skip s.data.toList (scan eolB s.data.toList i) = sk by rw [← HS.out, skip_cmt (i := i) (by rw [← Lib.size_eq]; exact hlt) hc, cmt_scan hc])
        have Hge := Lib.hid (show i + 1 ≤ scan eolB s.data.toList i ∧ scan eolB s.data.toList i ≤ s.size by
          rw [cmt_scan hc]
          exact ⟨scan_ge, by rw [Lib.size_eq]; exact scan_le (by rw [← Lib.size_eq]; omega)⟩)
        have cA := Lib.hid (fun W => any_calls s ⟨#[13, 10]⟩ i eolB W hs hi (by decide) (by decide) (ascii_of_all (by decide)) contains_eol)
        generalize hq : scan eolB s.data.toList i = q at HS2 Hge cA
        have h0i : (0 : Int) ≤ (i : Int) := by omega
        clear hc Hx hq
        obtain ⟨hq1, hq2⟩ := Hge.out
        have tail : True := trivial
        rcases hT with b2 | ⟨j, hj, hji, b2, b3 | ⟨b3, b4⟩⟩
        all_goals
          try (have hji2 : (i : Int) - 1 = (j : Int) := by omega)
          try clear hji
          go_wp2_with fail
          refine (cA.out _).mono ?_
          rintro e w1 ⟨⟨v, rfl, hv⟩, hb⟩
          have HK1 := Lib.hid (HK.out.below hb)
          have HG1 := Lib.hid (grown_trans HG.out (grown_below hb))
          clear hb
          have d0 : w1.cell? ⟨p, 0, none⟩ = some (.string s) := by have := HK1.out.cell 0; simpa using this
          have d1 : w1.cell? ⟨p, 1, none⟩ = some (.int .i64 i) := by have := HK1.out.cell 1; simpa using this
          have y1 : w1.frozen? ⟨p, 1, none⟩ = false := HK1.out.frozen 1
          rcases hv with ⟨hv, hqs⟩ | ⟨hv, hqv⟩
          · have Hqs := Lib.hid hqs
            clear hqs
            go_wp2_with fail
            go_roundg (s.size - q)
            case measure => omega
            case rel => exact ⟨q, by omega, by omega, HK1.out.at1 (i64_eq (by have := Hqs.out; omega)), grown_trans HG1.out (HK1.out.wrote 1 _), HS2⟩
          · have Hqv := Lib.hid hqv
            have hvs : v ≤ s.size := by omega
            have hivs : (i : Int) + v ≤ s.size := by omega
            clear hqv
            go_wp2_with fail
            go_roundg (s.size - q)
            case measure => omega
            case rel => exact ⟨q, by omega, by omega, HK1.out.at1 (i64_eq (by have := Hqv.out; omega)), grown_trans HG1.out (HK1.out.wrote 1 _), HS2⟩
      | false =>
        have hT := cmt_no hlt hx hc
        have cB := Lib.hid (fun W => Any.strings_IndexByte Tryz.laysByte ⟨#[32, 9, 13, 10]⟩ (x.toNat : Int) W)
        have hback : ((x.toNat : Int)).toNat.toUInt8 = x := by simp
        have htw := take_white x
        have Hx2 := Hx.out
        cases hw : whiteB x with
        | true =>
          have HS2 := Lib.hid (show skip s.data.toList (i + 1) = sk by rw [← HS.out, skip_white Hx2 hc hw])
          rw [hw] at htw
          have Htw := Lib.hid htw
          clear htw Hx2 hc hw
          rcases hT with b1 | ⟨b1, b2, j, hj, hji, b3, b4⟩
          all_goals
            try (have hji2 : (i : Int) - 1 = (j : Int) := by omega)
            try clear hji
            go_wp2_with fail
            refine (cB.out _).mono ?_
            rintro e w1 ⟨rfl, rfl⟩
            have d1 : decide (Lib.indexByte [32, 9, 13, 10] x < 0) = false := Htw.out
            simp only [hback]
            generalize Lib.indexByte [32, 9, 13, 10] x = v at *
            go_wp2_with fail
            go_roundg (s.size - (i + 1))
            case measure => omega
            case rel => exact ⟨i + 1, by omega, by omega, HK.out.at1 (i64_eq (by omega)), grown_trans HG.out (HK.out.wrote 1 _), HS2⟩
        | false =>
          have HS2 := Lib.hid (show i = sk by rw [← HS.out, skip_word Hx2 hc hw])
          rw [hw] at htw
          have Htw := Lib.hid htw
          have hge : i ≤ scan whiteB s.data.toList i := scan_ge
          have hle : scan whiteB s.data.toList i ≤ s.size := by rw [Lib.size_eq]; exact scan_le (by rw [← Lib.size_eq]; omega)
          have cA := Lib.hid (fun W => any_calls s ⟨#[32, 9, 13, 10]⟩ i whiteB W hs hi (by decide) (by decide) (ascii_of_all (by decide)) contains_white)
          have Ht := Lib.hid (show scan whiteB s.data.toList i = te by rw [HS2.out]; exact Hte.out)
          rw [Ht.out] at hge hle cA
          have h0i : (0 : Int) ≤ (i : Int) := by omega
          clear htw Hx2 hc hw
          rcases hT with b1 | ⟨b1, b2, j, hj, hji, b3, b4⟩
          all_goals
            try (have hji2 : (i : Int) - 1 = (j : Int) := by omega)
            try clear hji
            go_wp2_with fail
            refine (cB.out _).mono ?_
            rintro e w1 ⟨rfl, rfl⟩
            have d1 : decide (Lib.indexByte [32, 9, 13, 10] x < 0) = true := Htw.out
            simp only [hback]
            generalize Lib.indexByte [32, 9, 13, 10] x = v at *
            have c2 : w1.cell? ⟨p, 2, none⟩ = some (.int .i64 f) := by have := HK.out.cell 2; simpa using this
            have z2 : w1.frozen? ⟨p, 2, none⟩ = false := HK.out.frozen 2
            go_wp2_with fail
            refine (cA.out _).mono ?_
            rintro e w2 ⟨⟨v2, rfl, hv⟩, hb⟩
            have K2 := Lib.hid ((HK.out.at2 (u := .int .i64 (i : Int)) rfl).below hb)
            have G2 := Lib.hid (grown_trans (grown_trans HG.out (HK.out.wrote 2 (.int .i64 (i : Int)))) (grown_below hb))
            clear hb
            have e0 : w2.cell? ⟨p, 0, none⟩ = some (.string s) := by have := K2.out.cell 0; simpa using this
            have e1 : w2.cell? ⟨p, 1, none⟩ = some (.int .i64 i) := by have := K2.out.cell 1; simpa using this
            have e2 : w2.cell? ⟨p, 2, none⟩ = some (.int .i64 i) := by have := K2.out.cell 2; simpa using this
            have y1 : w2.frozen? ⟨p, 1, none⟩ = false := K2.out.frozen 1
            have hfin := Lib.hid (show (s.extract i te = s.extract sk te) by rw [HS2.out])
            rcases hv with ⟨hv, hqs⟩ | ⟨hv, hqv⟩
            · have Hq := Lib.hid (show (i : Int) + ((s.size : Int) - (i : Int)) = (te : Int) by omega)
              clear hqs
              go_wp2_with fail
              have K3 := Lib.hid (K2.out.at1 (u := .int .i64 ((i : Int) + ((s.size : Int) - (i : Int)))) (i64_eq Hq.out))
              have G3 := Lib.hid (grown_trans G2.out (K2.out.wrote 1 (.int .i64 ((i : Int) + ((s.size : Int) - (i : Int))))))
              generalize w2.setCell ⟨p, 1, none⟩ (.int .i64 ((i : Int) + ((s.size : Int) - (i : Int)))) = W at *
              have f1 : W.cell? ⟨p, 1, none⟩ = some (.int .i64 te) := by have := K3.out.cell 1; simpa using this
              have f2 : W.cell? ⟨p, 2, none⟩ = some (.int .i64 i) := by have := K3.out.cell 2; simpa using this
              clear e0 e1 e2 y1
              go_quiet (fail)
              go_wp2_with fail
              go_ret
              exact ⟨ret_str hfin.out, by rw [← HS2.out]; exact K3.out.drewN _, grown_drewN G3.out _⟩
            · have Hq := Lib.hid (show (i : Int) + v2 = (te : Int) from hqv)
              have hvs : v2 ≤ s.size := by have := Hq.out; omega
              have hivs : (i : Int) + v2 ≤ s.size := by have := Hq.out; omega
              clear hqv
              go_wp2_with fail
              have K3 := Lib.hid (K2.out.at1 (u := .int .i64 ((i : Int) + v2)) (i64_eq Hq.out))
              have G3 := Lib.hid (grown_trans G2.out (K2.out.wrote 1 (.int .i64 ((i : Int) + v2))))
              generalize w2.setCell ⟨p, 1, none⟩ (.int .i64 ((i : Int) + v2)) = W at *
              have f1 : W.cell? ⟨p, 1, none⟩ = some (.int .i64 te) := by have := K3.out.cell 1; simpa using this
              have f2 : W.cell? ⟨p, 2, none⟩ = some (.int .i64 i) := by have := K3.out.cell 2; simpa using this
              clear e0 e1 e2 y1
              go_quiet (fail)
              go_wp2_with fail
              go_ret
              exact ⟨ret_str hfin.out, by rw [← HS2.out]; exact K3.out.drewN _, grown_drewN G3.out _⟩
    · have hile : s.size ≤ i := by omega
      have HS2 := Lib.hid (show i = sk by rw [← HS.out, skip_end (by rw [← Lib.size_eq]; omega)])
      have hge : i ≤ scan whiteB s.data.toList i := scan_ge
      have hle : scan whiteB s.data.toList i ≤ s.size := by rw [scan_end (by rw [← Lib.size_eq]; omega)]; omega
      have Ht := Lib.hid (show scan whiteB s.data.toList i = te by rw [HS2.out]; exact Hte.out)
      have cA := Lib.hid (fun W => any_calls s ⟨#[32, 9, 13, 10]⟩ i whiteB W hs hi (by decide) (by decide) (ascii_of_all (by decide)) contains_white)
      rw [Ht.out] at hge hle cA
      have hiz : ¬ ((i : Int) < (s.size : Int)) := by omega
      have h0i : (0 : Int) ≤ (i : Int) := by omega
      have c2 : wr.cell? ⟨p, 2, none⟩ = some (.int .i64 f) := by have := HK.out.cell 2; simpa using this
      have z2 : wr.frozen? ⟨p, 2, none⟩ = false := HK.out.frozen 2
      go_wp2_with fail
      refine (cA.out _).mono ?_
      rintro e w2 ⟨⟨v2, rfl, hv⟩, hb⟩
      have K2 := Lib.hid ((HK.out.at2 (u := .int .i64 (i : Int)) rfl).below hb)
      have G2 := Lib.hid (grown_trans (grown_trans HG.out (HK.out.wrote 2 (.int .i64 (i : Int)))) (grown_below hb))
      clear hb
      have e0 : w2.cell? ⟨p, 0, none⟩ = some (.string s) := by have := K2.out.cell 0; simpa using this
      have e1 : w2.cell? ⟨p, 1, none⟩ = some (.int .i64 i) := by have := K2.out.cell 1; simpa using this
      have e2 : w2.cell? ⟨p, 2, none⟩ = some (.int .i64 i) := by have := K2.out.cell 2; simpa using this
      have y1 : w2.frozen? ⟨p, 1, none⟩ = false := K2.out.frozen 1
      have hfin := Lib.hid (show (s.extract i te = s.extract sk te) by rw [HS2.out])
      rcases hv with ⟨hv, hqs⟩ | ⟨hv, hqv⟩
      · have Hq := Lib.hid (show (i : Int) + ((s.size : Int) - (i : Int)) = (te : Int) by omega)
        clear hqs
        go_wp2_with fail
        have K3 := Lib.hid (K2.out.at1 (u := .int .i64 ((i : Int) + ((s.size : Int) - (i : Int)))) (i64_eq Hq.out))
        have G3 := Lib.hid (grown_trans G2.out (K2.out.wrote 1 (.int .i64 ((i : Int) + ((s.size : Int) - (i : Int))))))
        generalize w2.setCell ⟨p, 1, none⟩ (.int .i64 ((i : Int) + ((s.size : Int) - (i : Int)))) = W at *
        have f1 : W.cell? ⟨p, 1, none⟩ = some (.int .i64 te) := by have := K3.out.cell 1; simpa using this
        have f2 : W.cell? ⟨p, 2, none⟩ = some (.int .i64 i) := by have := K3.out.cell 2; simpa using this
        clear e0 e1 e2 y1
        go_quiet (fail)
        go_wp2_with fail
        go_ret
        exact ⟨ret_str hfin.out, by rw [← HS2.out]; exact K3.out.drewN _, grown_drewN G3.out _⟩
      · have Hq := Lib.hid (show (i : Int) + v2 = (te : Int) from hqv)
        have hvs : v2 ≤ s.size := by have := Hq.out; omega
        have hivs : (i : Int) + v2 ≤ s.size := by have := Hq.out; omega
        clear hqv
        go_wp2_with fail
        have K3 := Lib.hid (K2.out.at1 (u := .int .i64 ((i : Int) + v2)) (i64_eq Hq.out))
        have G3 := Lib.hid (grown_trans G2.out (K2.out.wrote 1 (.int .i64 ((i : Int) + v2))))
        generalize w2.setCell ⟨p, 1, none⟩ (.int .i64 ((i : Int) + v2)) = W at *
        have f1 : W.cell? ⟨p, 1, none⟩ = some (.int .i64 te) := by have := K3.out.cell 1; simpa using this
        have f2 : W.cell? ⟨p, 2, none⟩ = some (.int .i64 i) := by have := K3.out.cell 2; simpa using this
        clear e0 e1 e2 y1
        go_quiet (fail)
        go_wp2_with fail
        go_ret
        exact ⟨ret_str hfin.out, by rw [← HS2.out]; exact K3.out.drewN _, grown_drewN G3.out _⟩

end Go.Proofs.YtnadmnhkfdkafaaGreatDoor
