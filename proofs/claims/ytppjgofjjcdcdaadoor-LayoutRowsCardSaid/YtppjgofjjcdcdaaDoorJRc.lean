/- LayoutRows holds: whatever the input, the call returns true and the arguments read as they did (the two tables of unicode/utf8 as the text lays them); tied to the program's text. -/
import Derived.Test.YtppjgofjjcdcdaaDoorJF
import Derived.Test.YtppjgofjjcdcdaaDoorPLayoutRowsx2
import Derived.Test.YtppjgofjjcdcdaaDoorPLayoutRowsx3
import Derived.Test.YtppjgofjjcdcdaaDoorJRb
import Derived.Test.YtppjgofjjcdcdaaDoorPLayoutRowsx1
import Derived.Test.YtppjgofjjcdcdaaDoorRows
import Derived.Test.YtppjgofjjcdcdaaDoorTie
import Derived.Test.YtppjgofjjcdcdaaDoorCards
import Derived.Test.YtppjgofjjcdcdaaDoorJG
import Derived.ProofKit
import Derived.OpenShut
import Derived.LaidMore
import Derived.Lay
import Derived.SevenTiedAt
import Derived.Carry
import Derived.ChangeOld
import Derived.SizedLaws
set_option linter.unusedVariables false
set_option linter.unusedSimpArgs false
/- copyistkit.OverRows: only the rows' own cells and positions change. -/
namespace Go.Proofs.YtppjgofjjcdcdaaDoor
open PLayoutRows
open Go.RowKit Go.Proofs.YtppjgofjjcdcdaaDoorW.PrintWords
def OvS (ds : List RowD) (b : Nat) : Prop := ∃ d ∈ ds, b = d.g ∨ b = d.q
/-- The rows' own block, and the blocks of their cells and positions, of unknown content. -/
structure Ov (w : World) (g : Nat) (cur : Array Value) (ds : List RowD) (W : World) : Prop where
 own : W.heap[g]? = some (.cells cur 39 (0, 0))
 at_ : ∀ d ∈ ds, (∃ cs : Array Value, cs.size = d.row.f0.length * 6 ∧ W.heap[d.g]? = some (.cells cs 78 (0, 0))) ∧ (∃ cs : Array Value, cs.size = d.row.f1.length ∧ W.heap[d.q]? = some (.cells cs 3 (0, 0)))
 fr : Fr (OvS ds) w W
theorem Ov.drew {w W : World} {g : Nat} {cur : Array Value} {ds : List RowD} (h : Ov w g cur ds W) : Ov w g cur ds W.drew := ⟨h.own, h.at_, h.fr.drew⟩
theorem Ov.setG {w W : World} {g : Nat} {cur : Array Value} {ds : List RowD} (h : Ov w g cur ds W) {d : RowD} (hd : d ∈ ds) (j : Nat) (x : Value) : Ov w g cur ds (W.setCell ⟨d.g, j, none⟩ x) := by
 obtain ⟨⟨cs, hz, hg⟩, -⟩ := h.at_ d hd
 refine ⟨hs_other h.own (ne_type h.own hg (by decide)), fun e he => ?_, h.fr.setCell _ _ (fun _ => ⟨d, hd, .inl rfl⟩)⟩
 obtain ⟨⟨cs', hz', hg'⟩, cq, hzq, hq⟩ := h.at_ e he
 refine ⟨?_, cq, hzq, hs_other hq (ne_type hq hg (by decide))⟩
 by_cases hh : e.g = d.g
 ·rw [hh] at hg' ⊢
  exact ⟨_, by rw [Array.size_setIfInBounds]; exact hz', hs_same hg'⟩
 ·exact ⟨cs', hz', hs_other hg' hh⟩
theorem Ov.setQ {w W : World} {g : Nat} {cur : Array Value} {ds : List RowD} (h : Ov w g cur ds W) {d : RowD} (hd : d ∈ ds) (j : Nat) (x : Value) : Ov w g cur ds (W.setCell ⟨d.q, j, none⟩ x) := by
 obtain ⟨-, cs, hz, hg⟩ := h.at_ d hd
 refine ⟨hs_other h.own (ne_type h.own hg (by decide)), fun e he => ?_, h.fr.setCell _ _ (fun _ => ⟨d, hd, .inr rfl⟩)⟩
 obtain ⟨⟨cs', hz', hg'⟩, cq, hzq, hq⟩ := h.at_ e he
 refine ⟨⟨cs', hz', hs_other hg' (ne_type hg' hg (by decide))⟩, ?_⟩
 by_cases hh : e.q = d.q
 ·rw [hh] at hq ⊢
  exact ⟨_, by rw [Array.size_setIfInBounds]; exact hzq, hs_same hq⟩
 ·exact ⟨cq, hzq, hs_other hq hh⟩
theorem rowsV_at (ds : List RowD) (i : Nat) (d : RowD) (h : ds[i]? = some d) : (rowsV ds)[i * 5]? = some (.slice (some ⟨d.g, 0, none⟩) d.row.f0.length d.row.f0.length) ∧ (rowsV ds)[i * 5 + 1]? = some (.slice (some ⟨d.q, 0, none⟩) d.row.f1.length d.row.f1.length) := by
 have h1 : ((rowsV ds).drop (i * 5)).take 5 = rowV d := flat_take rowV 5 (fun _ => rfl) ds i d h
 have h2 : ∀ j, j < 5 → (rowsV ds)[i * 5 + j]? = (rowV d)[j]? := fun j hj => by
  rw [← h1, List.getElem?_take_of_lt hj, List.getElem?_drop]
 exact ⟨(h2 0 (by omega)).trans rfl, (h2 1 (by omega)).trans rfl⟩
theorem cells_in {W : World} {g j n : Nat} {cs : Array Value} {t : TypeId} (h : W.heap[g]? = some (.cells cs t (0, 0))) (hn : cs.size = n) (hj : j < n) : ∃ v, W.cell? ⟨g, j, none⟩ = some v :=
 ⟨cs[j]'(by omega), cell_row h (by simp [show j < cs.size by omega])⟩
set_option maxRecDepth 100000
set_option maxHeartbeats 4000000 in
theorem over_any (v : Value) (base : Nat) (ds : List RowD) (w : World) (h : OutAt w base v ds) (hd : ∀ d ∈ ds, d.row.f0.length ≤ 1000000 ∧ d.row.f1.length ≤ 1000000) :
  Calls Tryd.prog 17 #[v] w fun e w' => e = .returned (.tuple #[]) ∧ Fr (OvS ds) w w' := by
 obtain ⟨n, hn⟩ : ∃ n, ds.length = n := ⟨_, rfl⟩
 rcases h.own.2 with ⟨rfl, h0⟩ | ⟨g, cap, cur, rfl, hb, hg, hc1, hc2, hcz, hct⟩
 ·clear h hd hn h0
  go_enter Tryd.func17, Tryd.ntmps17
  go_wp2
  go_loop [2, 3, 4] (fun i _ _ => i = .int .i64 0) (fun _ _ _ => 0)
  case atStart => rfl
  case round =>
   subst hrel
   go_wp2
   go_end0
   exact ⟨rfl, Fr.refl _ _⟩
 ·have hr : ∀ i d, ds[i]? = some d → cur[i * 5]? = some (.slice (some ⟨d.g, 0, none⟩) d.row.f0.length d.row.f0.length) ∧ cur[i * 5 + 1]? = some (.slice (some ⟨d.q, 0, none⟩) d.row.f1.length d.row.f1.length) := by
   intro i d hi
   have hlt := (List.getElem?_eq_some_iff.1 hi).1
   have hh := rowsV_at ds i d hi
   rw [← hct] at hh
   rw [List.getElem?_take_of_lt (by omega), List.getElem?_take_of_lt (by omega)] at hh
   simpa using hh
  have hov : Ov w g cur ds w := ⟨hg, fun d hm => by
   obtain ⟨-, -, h3, h4⟩ := h.at_ d hm
   exact ⟨⟨_, by simp [flat_len], h3⟩, _, by simp, h4⟩, Fr.refl _ _⟩
  rw [hn] at hc1
  have hl : n ≤ 9223372036854775807 := by have : maxLen = 9223372036854775807 := rfl; omega
  rw [hn]
  have HO := Lib.hid hov
  have HR := Lib.hid hr
  have HD := Lib.hid hd
  have HN := Lib.hid hn
  have hcap : cap ≤ 9223372036854775807 := hc2
  clear h hov hr hd hg hct hcz hn hb hc2
  go_enter Tryd.func17, Tryd.ntmps17
  go_wp2
  go_loopw [2, 3, 4] (fun i _ _ W => ∃ k : Nat, i = .int .i64 k ∧ k ≤ n ∧ Hid (Ov w g cur ds W)) (fun i _ _ _ => n - (intOf i).toNat)
  case atStart => exact ⟨0, rfl, Nat.zero_le _, HO⟩
  case round =>
   obtain ⟨k, rfl, hk, HW⟩ := hrel
   by_cases hlt : k < n
   ·obtain ⟨d, hdk⟩ : ∃ d, ds[k]? = some d := ⟨_, List.getElem?_eq_getElem (show k < ds.length by rw [HN.out]; exact hlt)⟩
    have hmem := List.mem_of_getElem? hdk
    obtain ⟨r0, r1⟩ := HR.out k d hdk
    obtain ⟨l0, hl0⟩ : ∃ l0, d.row.f0.length = l0 := ⟨_, rfl⟩
    obtain ⟨l1, hl1⟩ : ∃ l1, d.row.f1.length = l1 := ⟨_, rfl⟩
    have hb0 := (HD.out d hmem).1
    have hb1 := (HD.out d hmem).2
    rw [hl0] at r0 hb0
    rw [hl1] at r1 hb1
    have HM := Lib.hid hmem
    have R0 := Lib.hid r0
    have R1 := Lib.hid r1
    have HL0 := Lib.hid hl0
    have HL1 := Lib.hid hl1
    have hk0 : (0 : Int) ≤ (k : Int) := by omega
    have hk1 : (k : Int) < (n : Int) := by omega
    obtain ⟨dg, hdg⟩ : ∃ dg, d.g = dg := ⟨_, rfl⟩
    obtain ⟨dq, hdq⟩ : ∃ dq, d.q = dq := ⟨_, rfl⟩
    rw [hdg] at R0
    rw [hdq] at R1
    clear hmem r0 r1 hl0 hl1 hdk
    go_wp2
    go_loopw [3] (fun q W => ∃ m : Nat, q = .int .i64 m ∧ m ≤ l0 ∧ Hid (Ov w g cur ds W)) (fun q _ => l0 - (intOf q).toNat)
    case atStart => exact ⟨0, rfl, Nat.zero_le _, HW⟩
    case round =>
     obtain ⟨m, rfl, hm, HI⟩ := hrel
     have x0 : wr.cell? ⟨g, k * 5, none⟩ = some (.slice (some ⟨dg, 0, none⟩) l0 l0) := cell_row HI.out.own R0.out
     by_cases hmt : m < l0
     ·have hm0 : (0 : Int) ≤ (m : Int) := by omega
      have hm1 : (m : Int) < (l0 : Int) := by omega
      obtain ⟨cs, hz, hgc⟩ := (HI.out.at_ d HM.out).1
      rw [HL0.out] at hz
      rw [hdg] at hgc
      obtain ⟨v0, g0⟩ := cells_in (j := m * 6) hgc hz (by omega)
      obtain ⟨v1, g1⟩ := cells_in (j := m * 6 + 1) hgc hz (by omega)
      obtain ⟨v2, g2⟩ := cells_in (j := m * 6 + 2) hgc hz (by omega)
      obtain ⟨v3, g3⟩ := cells_in (j := m * 6 + 3) hgc hz (by omega)
      obtain ⟨v4, g4⟩ := cells_in (j := m * 6 + 4) hgc hz (by omega)
      obtain ⟨v5, g5⟩ := cells_in (j := m * 6 + 5) hgc hz (by omega)
      have z0 : wr.frozen? ⟨dg, m * 6, none⟩ = false := free_row hgc
      have z1 : wr.frozen? ⟨dg, m * 6 + 1, none⟩ = false := free_row hgc
      have z2 : wr.frozen? ⟨dg, m * 6 + 2, none⟩ = false := free_row hgc
      have z3 : wr.frozen? ⟨dg, m * 6 + 3, none⟩ = false := free_row hgc
      have z4 : wr.frozen? ⟨dg, m * 6 + 4, none⟩ = false := free_row hgc
      have z5 : wr.frozen? ⟨dg, m * 6 + 5, none⟩ = false := free_row hgc
      have hgr : dg < wr.heap.size := lt_of_block hgc
      clear hgc hz
      go_wp2
      go_roundw
      case rel => exact ⟨m + 1, by go_num, by omega, Lib.hid (by rw [← hdg]; exact (((((HI.out.setG HM.out _ _).setG HM.out _ _).setG HM.out _ _).setG HM.out _ _).setG HM.out _ _).setG HM.out _ _)⟩
      case measure => simp [intOf]; omega
     ·obtain rfl : m = l0 := by omega
      clear hmt
      go_wp2
      clear x0
      go_loopw [4] (fun q W => ∃ m : Nat, q = .int .i64 m ∧ m ≤ l1 ∧ Hid (Ov w g cur ds W)) (fun q _ => l1 - (intOf q).toNat)
      case atStart => exact ⟨0, rfl, Nat.zero_le _, HI⟩
      case round =>
       obtain ⟨m, rfl, hm, HJ⟩ := hrel
       have x1 : wr.cell? ⟨g, k * 5 + 1, none⟩ = some (.slice (some ⟨dq, 0, none⟩) l1 l1) := cell_row HJ.out.own R1.out
       by_cases hmt : m < l1
       ·have hm0 : (0 : Int) ≤ (m : Int) := by omega
        have hm1 : (m : Int) < (l1 : Int) := by omega
        obtain ⟨cs, hz, hgc⟩ := (HJ.out.at_ d HM.out).2
        rw [HL1.out] at hz
        rw [hdq] at hgc
        obtain ⟨v0, g0⟩ := cells_in (j := m) hgc hz hmt
        have z0 : wr.frozen? ⟨dq, m, none⟩ = false := free_row hgc
        have hgr : dq < wr.heap.size := lt_of_block hgc
        clear hgc hz
        go_wp2
        go_roundw
        case rel => exact ⟨m + 1, by go_num, by omega, Lib.hid (by rw [← hdq]; exact HJ.out.setQ HM.out _ _)⟩
        case measure => simp [intOf]; omega
       ·obtain rfl : m = l1 := by omega
        clear hmt
        go_wp2
        go_roundw
        case rel => exact ⟨k + 1, by go_num, by omega, HJ⟩
        case measure => simp [intOf]; omega
   ·obtain rfl : k = n := by omega
    go_wp2
    go_end0
    exact ⟨rfl, HW.out.fr⟩
end Go.Proofs.YtppjgofjjcdcdaaDoor

/- copyistlaw35.LayoutRows: the walk. -/
namespace Go.Proofs.YtppjgofjjcdcdaaDoor
open PLayoutRows
open Go.RowKit Go.Proofs.YtppjgofjjcdcdaaDoorW.PrintWords
attribute [local go_sem high] eqA55
set_option maxRecDepth 100000
set_option maxHeartbeats 1600000 in
theorem parts_same (A : Option Addr) (c : Nat) (B : Option Addr) (d : Nat) (l : List Part) (n : Nat) (w : World) (hA : Kd.C k55 w A n l) (hB : Kd.C k55 w B n l) :
  Calls Tryd.prog 18 #[.slice A n c, .slice B n d] w fun e w' => e = .returned (.bool true) ∧ Drawn0 w w' := by
 have hu55 := Tryd.underlying55
 have hnb : n ≤ 9223372036854775807 := hA.2.1
 have HA := Lib.hid hA
 have HB := Lib.hid hB
 clear hA hB
 go_enter Tryd.func18, Tryd.ntmps18
 go_wp2
 go_loopw [5, 6] (fun v i wr => ∃ k : Nat, v = .bool true ∧ i = .int .i64 k ∧ k ≤ n ∧ Drawn0 w wr) (fun _ i _ => n - (intOf i).toNat)
 case atStart => exact ⟨0, by simp, rfl, Nat.zero_le _, Drawn0.refl _⟩
 case round =>
  obtain ⟨k, rfl, rfl, hk, ⟨m1, rfl⟩⟩ := hrel
  by_cases hlt : k < n
  ·obtain ⟨ad, rfl, x0, x1, x2, x3, x4, x5, x6, x7, x8⟩ := at_T55 HA.out (k : Int) (by omega) (by omega)
   obtain ⟨bd, rfl, y0, y1, y2, y3, y4, y5, y6, y7, y8⟩ := at_T55 HB.out (k : Int) (by omega) (by omega)
   rw [Int.toNat_natCast] at x0 x1 x2 x3 x4 x5 x6 x7 x8 y0 y1 y2 y3 y4 y5 y6 y7 y8
   obtain ⟨x, hx⟩ : ∃ x, rd_T55 l (k : Int) = x := ⟨_, rfl⟩
   rw [hx] at x0 x1 x2 x3 x4 x5 x6 x7 x8 y0 y1 y2 y3 y4 y5 y6 y7 y8
   clear hx
   have hk0 : (0 : Int) ≤ (k : Int) := by omega
   have hk1 : (k : Int) < (n : Int) := by omega
   go_wp2
   repeat (go_quiet (fail); try go_wp2)
   go_roundw
   case rel => exact ⟨k + 1, by simp, by go_num, by omega, by repeat (first | exact Drawn0.refl _ | apply Drawn0.step)⟩
   case measure => simp [intOf]; omega
  ·have hkn : k = n := by omega
   subst hkn
   go_wp2
   repeat (go_quiet (fail); try go_wp2)
   go_ret
   exact ⟨rfl, by repeat (first | exact Drawn0.refl _ | apply Drawn0.step)⟩
theorem parts_any (A : Option Addr) (n c : Nat) (l : List Part) (hn : l.length = n) (hc : n ≤ c) (hl : n ≤ 1000) (w : World) (hC : Kd.C k55 w A n l) :
  Calls Tryd.prog 11 #[.slice A n c] w fun e w' => ∃ B d, e = .returned (.slice B n d) ∧ n ≤ d ∧ Kd.C k55 w' B n l ∧ Below w.heap.size w w' := by
 subst hn
 refine (copyistlaw35_parts.calls A c l l w hC hc ?_).mono ?_
 ·unfold copyistlaw35_parts.f
  rw [Option.bind_some, if_pos (by simp; omega)]
  simp
 ·rintro e w' ⟨v, rfl, hR, hb⟩
  obtain ⟨B, d, rfl, hd, hC'⟩ := Kd.R_reads hR
  exact ⟨B, d, rfl, hd, hC', hb⟩
set_option maxHeartbeats 8000000 in
theorem lrows_walk (A : Option Addr) (n c : Nat) (l : List Part) (hn : l.length = n) (hnc : n ≤ c) (from_ to_ width tab : Int) (wrap : Bool) (most : Int) (w : World) (hC : Kd.C k55 w A n l) (hT : Tabs w) :
  Calls Tryd.prog 3 #[.slice A n c, .int .i64 from_, .int .i64 to_, .int .i64 width, .int .i64 tab, .bool wrap, .int .i64 most] w fun e w' => e = .returned (.bool true) ∧ Below w.heap.size w w' := by
 have HT := Lib.hid (fun W (h : Below w.heap.size w W) => hT.below h)
 have HA := Lib.hid (fun W (h : Below w.heap.size w W) => awake_any W (hT.below h))
 have HC := Lib.hid (fun W (h : Below w.heap.size w W) => Kd.C_below hC h)
 have HN := Lib.hid hn
 have HNC := Lib.hid hnc
 clear hC hT hn hnc
 go_enter Tryd.func3, Tryd.ntmps3
 go_wp2_with fail
 refine (long_any A n c l HN.out HNC.out _ (HC.out _ (Below.refl _ _))).mono ?_
 rintro e w2 ⟨b, rfl, hlong, hd⟩
 have HB2 := Lib.hid hd.below
 have HL := Lib.hid hlong
 clear hd hlong
 cases b with
 | true =>
  go_wp2_with (first | (((with_reducible refine wpList_unguard ?_ ?_); (focus rfl))) | (((with_reducible refine wpList_pass ?_ (by kernel_rfl) ?_); (focus rfl))))
  refine (HA.out _ HB2.out).mono ?_
  rintro e w3 ⟨rfl, hb⟩
  have HB3 := Lib.hid (below_on HB2.out hb)
  clear hb
  go_wp2_with (first | (((with_reducible refine wpList_unguard ?_ ?_); (focus rfl))) | (((with_reducible refine wpList_pass ?_ (by kernel_rfl) ?_); (focus rfl))))
  go_ret
  exact ⟨rfl, HB3.out⟩
 | false =>
  obtain ⟨hl30, hl200⟩ := HL.out rfl
  have HL30 := Lib.hid hl30
  have HS200 := Lib.hid hl200
  have HS := Lib.hid (show ∀ p ∈ l, p.f3.size ≤ 1000000 from fun p hp => by have := hl200 p hp; omega)
  clear hl30 hl200 HL
  go_wp2_with (first | (((with_reducible refine wpList_unguard ?_ ?_); (focus rfl))) | (((with_reducible refine wpList_pass ?_ (by kernel_rfl) ?_); (focus rfl))))
  refine (vast_any A n c l HN.out HNC.out (by have := HL30.out; omega) width tab 200000 _ (HC.out _ HB2.out)).mono ?_
  rintro e w3 ⟨b3, rfl, hd⟩
  have HB3 := Lib.hid (below_on HB2.out hd.below)
  clear hd HB2
  cases b3 with
  | true =>
   go_wp2_with (first | (((with_reducible refine wpList_unguard ?_ ?_); (focus rfl))) | (((with_reducible refine wpList_pass ?_ (by kernel_rfl) ?_); (focus rfl))))
   refine (HA.out _ HB3.out).mono ?_
   rintro e w4 ⟨rfl, hb⟩
   have HB4 := Lib.hid (below_on HB3.out hb)
   clear hb
   go_wp2_with (first | (((with_reducible refine wpList_unguard ?_ ?_); (focus rfl))) | (((with_reducible refine wpList_pass ?_ (by kernel_rfl) ?_); (focus rfl))))
   go_ret
   exact ⟨rfl, HB4.out⟩
  | false =>
   obtain ⟨⟨ra, ea⟩, hra⟩ : ∃ x, rowsP l from_ to_ width tab wrap most = x := ⟨_, rfl⟩
   have HRA := Lib.hid hra
   have HRW := Lib.hid (show ∀ r ∈ ra, r.f0.length ≤ 1000000 ∧ r.f1.length ≤ 1000000 from fun r hr => by
    have h := rowsP_width l from_ to_ width tab wrap most r (by rw [hra]; exact hr)
    omega)
   clear hra
   go_wp2_with (first | (((with_reducible refine wpList_unguard ?_ ?_); (focus rfl))) | (((with_reducible refine wpList_pass ?_ (by kernel_rfl) ?_); (focus rfl))))
   refine (parts_any A n c l HN.out HNC.out (by have := HL30.out; have := HN.out; omega) _ (HC.out _ HB3.out)).mono ?_
   rintro e w4 ⟨A4, c4, rfl, hc4, hC4, hb⟩
   have HB4 := Lib.hid (below_on HB3.out hb)
   have HI := Lib.hid (fun W (h : Below w4.heap.size w4 W) => Kd.C_below hC4 h)
   clear hb hC4 HB3
   go_wp2_with (first | (((with_reducible refine wpList_unguard ?_ ?_); (focus rfl))) | (((with_reducible refine wpList_pass ?_ (by kernel_rfl) ?_); (focus rfl))))
   have hrow := (callsIn_wide.1 (rows_any A4 c4 l from_ to_ width tab wrap most w4 (by rw [HN.out]; exact HI.out _ (Below.refl _ _)) (HT.out _ HB4.out) HS.out (by have := HL30.out; omega)))
   rw [HN.out, HRA.out] at hrow
   refine hrow.mono ?_
   clear hrow
   rintro e w5 ⟨v5, ds, rfl, ho, hds, hf⟩
   replace hds : ds.map RowD.row = ra := hds
   have hdw : ∀ d ∈ ds, d.row.f0.length ≤ 1000000 ∧ d.row.f1.length ≤ 1000000 := fun d hd => HRW.out d.row (by rw [← hds]; exact List.mem_map_of_mem hd)
   obtain ⟨A5, c5, rfl, hc5, hC5⟩ := ho.toC (fun d hd => by have := hdw d hd; omega)
   obtain ⟨na, hna⟩ : ∃ na, ds.length = na := ⟨_, rfl⟩
   have hral : ra.length = na := by rw [← hds, List.length_map]; exact hna
   rw [hds] at hC5
   rw [hna] at ho hC5 hc5 ⊢
   have HB45 := Lib.hid hf.toBelow
   have HB5 := Lib.hid (below_on HB4.out hf.toBelow)
   have HO := Lib.hid ho
   have HC5 := Lib.hid hC5
   have HRAL := Lib.hid hral
   have HDW := Lib.hid hdw
   have HDS := Lib.hid (show ∀ b, OvS ds b → w4.heap.size ≤ b ∧ b < w5.heap.size from fun b hb => by
    obtain ⟨d, hd, hh⟩ := hb
    obtain ⟨h1, h2, h3, h4⟩ := ho.at_ d hd
    have h5 := lt_of_block h3
    have h6 := lt_of_block h4
    rcases hh with rfl | rfl
    ·exact ⟨h1, h5⟩
    ·exact ⟨h2, h6⟩)
   have HS4 := Lib.hid HB4.out.size
   clear ho hC5 hral hdw hds hna hf HB4 HRW
   go_wp2_with (first | (((with_reducible refine wpList_unguard ?_ ?_); (focus rfl))) | (((with_reducible refine wpList_pass ?_ (by kernel_rfl) ?_); (focus rfl))))
   refine (refRows_any A c l n HN.out from_ to_ width tab wrap most w5 (HC.out _ HB5.out) HS200.out (by have := HL30.out; have := HN.out; omega) ra ea HRA.out).mono ?_
   rintro e w6 ⟨v6, rfl, hN6, hb⟩
   obtain ⟨A6, c6, rfl⟩ := Kd.N_slice hN6
   have HN6 := Lib.hid hN6
   have HB6 := Lib.hid (below_on HB5.out hb)
   have HB56 := Lib.hid hb
   clear hb hN6 HB5
   obtain ⟨q, hq⟩ : ∃ q, ra.length = q := ⟨_, rfl⟩
   rw [hq] at HN6 ⊢
   obtain rfl : q = na := hq.symm.trans HRAL.out
   clear hq
   go_wp2_with (first | (((with_reducible refine wpList_unguard ?_ ?_); (focus rfl))) | (((with_reducible refine wpList_pass ?_ (by kernel_rfl) ?_); (focus rfl))))
   have hsame := rows_same A5 c5 A6 c6 ra q w6 (Kd.C_below HC5.out HB56.out) (by have := (Kd.N_reads' HN6.out).2.2; rw [HRAL.out] at this; exact this)
   refine hsame.mono ?_
   clear hsame
   rintro e w7 ⟨rfl, hd⟩
   have HB7 := Lib.hid (below_on HB6.out hd.below)
   have HN7 := Lib.hid (Kd.N_below HN6.out hd.below)
   have HB57 := Lib.hid (below_on HB56.out hd.below)
   clear hd HB6 HB56 HN6 HC5
   go_wp2_with (first | (((with_reducible refine wpList_unguard ?_ ?_); (focus rfl))) | (((with_reducible refine wpList_pass ?_ (by kernel_rfl) ?_); (focus rfl))))
   have HI7 := Lib.hid (HI.out _ (below_on HB45.out HB57.out))
   have hck := check_any A4 c4 l from_ to_ w7 (by rw [HN.out]; exact HI7.out) (HT.out _ HB7.out) (fun p hp => by have := HS200.out p hp; omega)
   rw [HN.out] at hck
   refine hck.mono ?_
   clear hck HI7
   rintro e w8 ⟨rfl, hf⟩
   have HB8 := Lib.hid (below_on HB7.out hf.toBelow)
   have HN8 := Lib.hid (Kd.N_below HN7.out hf.toBelow)
   have HB58 := Lib.hid (below_on HB57.out hf.toBelow)
   clear hf HB7 HB57 HN7
   go_wp2_with (first | (((with_reducible refine wpList_unguard ?_ ?_); (focus rfl))) | (((with_reducible refine wpList_pass ?_ (by kernel_rfl) ?_); (focus rfl))))
   refine (rcheck_any A c l n HN.out from_ to_ w8 (HC.out _ HB8.out) HS.out).mono ?_
   rintro e w9 ⟨rfl, hb⟩
   have HB9 := Lib.hid (below_on HB8.out hb)
   have HN9 := Lib.hid (Kd.N_below HN8.out hb)
   have HB59 := Lib.hid (below_on HB58.out hb)
   clear hb HB8 HB58 HN8
   go_wp2_with (first | (((with_reducible refine wpList_unguard ?_ ?_); (focus rfl))) | (((with_reducible refine wpList_pass ?_ (by kernel_rfl) ?_); (focus rfl))))
   have hov := over_any (.slice A5 q c5) w4.heap.size ds w9 (HO.out.kept (Fr.ofBelow HB59.out) (fun _ _ h => h) (fun _ _ => ⟨fun h => h, fun h => h⟩)) HDW.out
   refine hov.mono ?_
   clear hov
   rintro e w10 ⟨rfl, hf⟩
   have hs4 := HS4.out
   have h49 : w4.heap.size ≤ w9.heap.size := Nat.le_trans HB45.out.size HB59.out.size
   have HB10 := Lib.hid (HB9.out.trans (hf.below (by omega) (fun b hb hh => by have := (HDS.out b hh).1; omega)))
   have HI10 := Lib.hid ((below_on HB45.out HB59.out).trans (hf.below h49 (fun b hb hh => by have := (HDS.out b hh).1; omega)))
   have HN10 := Lib.hid (Kd.N_step HN9.out (fun k hk hlt => hf.block k hlt (fun hh => by have := (HDS.out k hh).2; omega)))
   clear hf hs4 h49 HB9 HN9 HB59 HB45 HO HDS HDW
   go_wp2_with (first | (((with_reducible refine wpList_unguard ?_ ?_); (focus rfl))) | (((with_reducible refine wpList_pass ?_ (by kernel_rfl) ?_); (focus rfl))))
   refine (rows_C A4 n c4 l HN.out from_ to_ width tab wrap most w10 (HI.out _ HI10.out) (HT.out _ HB10.out) HS.out (by have := HL30.out; omega) ra ea HRA.out).mono ?_
   rintro e w11 ⟨A11, c11, rfl, hc11, hC11, hb⟩
   rw [HRAL.out] at hc11 hC11 ⊢
   have HB11 := Lib.hid (below_on HB10.out hb)
   have HI11 := Lib.hid (HI10.out.trans (hb.mono HI10.out.size))
   have HN11 := Lib.hid (Kd.N_below HN10.out hb)
   have HC11 := Lib.hid hC11
   clear hb hc11 hC11 HB10 HI10 HN10
   go_wp2_with (first | (((with_reducible refine wpList_unguard ?_ ?_); (focus rfl))) | (((with_reducible refine wpList_pass ?_ (by kernel_rfl) ?_); (focus rfl))))
   have hsame := rows_same A11 c11 A6 c6 ra q w11 HC11.out (by have := (Kd.N_reads' HN11.out).2.2; rw [HRAL.out] at this; exact this)
   refine hsame.mono ?_
   clear hsame
   rintro e w12 ⟨rfl, hd⟩
   have HB12 := Lib.hid (below_on HB11.out hd.below)
   have HI12 := Lib.hid (HI11.out.trans (hd.below.mono HI11.out.size))
   clear hd HB11 HI11 HN11 HC11
   go_wp2_with (first | (((with_reducible refine wpList_unguard ?_ ?_); (focus rfl))) | (((with_reducible refine wpList_pass ?_ (by kernel_rfl) ?_); (focus rfl))))
   have hsame := parts_same A4 c4 A c l n w12 (HI.out _ HI12.out) (HC.out _ HB12.out)
   refine hsame.mono ?_
   clear hsame
   rintro e w13 ⟨rfl, hd⟩
   have HB13 := Lib.hid (below_on HB12.out hd.below)
   clear hd HB12 HI12
   go_wp2_with (first | (((with_reducible refine wpList_unguard ?_ ?_); (focus rfl))) | (((with_reducible refine wpList_pass ?_ (by kernel_rfl) ?_); (focus rfl))))
   refine (HA.out _ HB13.out).mono ?_
   rintro e w14 ⟨rfl, hb⟩
   have HB14 := Lib.hid (below_on HB13.out hb)
   clear hb
   go_wp2_with (first | (((with_reducible refine wpList_unguard ?_ ?_); (focus rfl))) | (((with_reducible refine wpList_pass ?_ (by kernel_rfl) ?_); (focus rfl))))
   go_ret
   exact ⟨rfl, HB14.out⟩
end Go.Proofs.YtppjgofjjcdcdaaDoor

/- LayoutRows holds: whatever the input, the call returns true and the arguments read as they did (the two tables of unicode/utf8 as the text lays them); tied to the program's text. -/
namespace Go.Proofs.YtppjgofjjcdcdaaDoor.layoutRows
open Go.ChangeShapes Go.WideShapes Go.ChangeAt Go.RowKit Go.Proofs.YtppjgofjjcdcdaaDoor Go.Proofs.YtppjgofjjcdcdaaDoor.PLayoutRows Go.Proofs.YtppjgofjjcdcdaaDoorW.PrintWords
set_option maxRecDepth 100000 in
theorem lifted (os : Os) (started : os.Started) (H : Type) (enc : TypeId × Value → H) :
  ReturnsInHanded {} Tryd.checked os 3 .any (fun w args => (Rows.layoutRowsSpec.pre enc Tryd.prog Tryd.f3 Rows.layoutRowsRow.domain false w args ∧ laidMetH Tryd.prog laid2 w) ∧ sizedMet enc Tryd.prog Tryd.f3 (OpenSpec.ofChange Rows.layoutRowsSpec) false w args)
   (Rows.layoutRowsSpec.post enc Tryd.prog Tryd.f3 false true false false) := by
 refine returnsInHanded_of_change_and (C := Tryd.checked) (X := fun w _ => laidMetH Tryd.prog laid2 w) (fun _ _ _ hh h => h.of_heap hh) own started (by kernel_rfl) Tryd.func3
  (ChangeSpec.witness_shaped (enc := enc) (C := Tryd.checked) (os := os) (X := fun w _ => laidMetH Tryd.prog laid2 w) false (World.laidAll Tryd.prog os laid2) #[.slice none 0 0, .int .i64 0, .int .i64 0, .int .i64 0, .int .i64 0, .bool false, .int .i64 0] 8 (World.laidAll_os _ _ _)
   (World.shaped_of_ZipB (by kernel_rfl) (by kernel_rfl)) (by kernel_rfl) (by kernel_rfl) (by kernel_rfl)
   (by rw [MakeChecks.laidMetH_plain _ _ _ (by kernel_rfl)]; exact laidMet_laidAll _ (by kernel_rfl) (by kernel_rfl))) ?_
 intro W base args ds gs before hval0 hW _ _ hL _
 have hval : ∀ (j : Nat) t v, Tryd.f3.params[j]? = some t → args[j]? = some v → Value.okWide Tryd.prog W .any base t v := hval0
 have hW' := hW
 obtain ⟨p, q, hA0, hV, rfl, hfz, hnd⟩ := hW
 have hA : DataW.TrodAll enc Tryd.prog W 0 (fun _ => true) true Tryd.f3.params.toList args.toList ds p := hA0
 rw [Tryd.params3] at hA hval
 obtain ⟨v0, vs0, d0, ds0, p0, q0, hargs, rfl, rfl, h0, r0⟩ := trodAll_cons hA
 obtain ⟨v1, vs1, d1, ds1, p1, q1, rfl, rfl, rfl, h1, r1⟩ := trodAll_cons r0
 obtain ⟨v2, vs2, d2, ds2, p2, q2, rfl, rfl, rfl, h2, r2⟩ := trodAll_cons r1
 obtain ⟨v3, vs3, d3, ds3, p3, q3, rfl, rfl, rfl, h3, r3⟩ := trodAll_cons r2
 obtain ⟨v4, vs4, d4, ds4, p4, q4, rfl, rfl, rfl, h4, r4⟩ := trodAll_cons r3
 obtain ⟨v5, vs5, d5, ds5, p5, q5, rfl, rfl, rfl, h5, r5⟩ := trodAll_cons r4
 obtain ⟨v6, vs6, d6, ds6, p6, q6, rfl, rfl, rfl, h6, r6⟩ := trodAll_cons r5
 obtain ⟨rfl, rfl, rfl⟩ := trodAll_nil r6
 obtain rfl : args = #[v0, v1, v2, v3, v4, v5, v6] := by cases args; simp_all
 obtain ⟨rfl, rfl⟩ := trodVars_none hV
 obtain ⟨a0, n0, c0, rfl⟩ := okWide_slice Tryd.underlying22 (hval 0 22 v0 rfl rfl)
 have k0 := h0
 have lt0 : ∀ x ∈ p0, x.block < W.heap.size := by obtain ⟨m, hm⟩ := k0; exact DataW.trod_lt m _ _ _ hm
 obtain ⟨l0, hn0, hc0, hC0⟩ := open_arg Tryd.underlying22 cellsOf55 opens_part h0
 obtain ⟨a1, rfl, rfl, rfl, w1⟩ := open_int Tryd.underlying3 (hval 1 3 v1 rfl rfl) h1
 obtain ⟨a2, rfl, rfl, rfl, w2⟩ := open_int Tryd.underlying3 (hval 2 3 v2 rfl rfl) h2
 obtain ⟨a3, rfl, rfl, rfl, w3⟩ := open_int Tryd.underlying3 (hval 3 3 v3 rfl rfl) h3
 obtain ⟨a4, rfl, rfl, rfl, w4⟩ := open_int Tryd.underlying3 (hval 4 3 v4 rfl rfl) h4
 obtain ⟨a5, rfl, rfl, rfl⟩ := open_bool Tryd.underlying4 (hval 5 4 v5 rfl rfl) h5
 obtain ⟨a6, rfl, rfl, rfl, w6⟩ := open_int Tryd.underlying3 (hval 6 3 v6 rfl rfl) h6
 clear hA0 hval0 hval
 refine (lrows_walk a0 n0 c0 l0 hn0 hc0 a1 a2 a3 a4 a5 a6 W hC0 (tabs_of_laid hL)).mono fun e W' ⟨he, bel⟩ => ?_
 subst he
 exact ⟨_, rfl, _, _, _, [], _, [], hW', trodAll_mk1 (shut_bool Tryd.underlying4 _), (trodAll_cons_mk (Below.trod laidOut (by kernel_rfl) (of_decide_eq_true (by kernel_rfl)) k0 bel lt0) (trodAll_cons_mk (shut_int Tryd.underlying3 w1) (trodAll_cons_mk (shut_int Tryd.underlying3 w2) (trodAll_cons_mk (shut_int Tryd.underlying3 w3) (trodAll_cons_mk (shut_int Tryd.underlying3 w4) (trodAll_cons_mk (shut_bool Tryd.underlying4 _) (trodAll_cons_mk (shut_int Tryd.underlying3 w6) trodAll_mk0))))))), rfl, bel.frame _, fun h => by cases h⟩
theorem over : Rows.layoutRowsRow.holds Tryd.pinned (OpenSpec.ofChange Rows.layoutRowsSpec) :=
 OpenClaim.holds_of_wide 3 Tryd.f3 rfl rfl rfl rfl rfl rfl rfl ⟨rfl, rfl, rfl, rfl, rfl⟩ rfl rfl rfl rfl rfl (by kernel_rfl) Tryd.func3 (by kernel_rfl)
  (of_decide_eq_true (by kernel_rfl)) (by unfold Func.isWrapper; first | (rw [if_pos (by decide +kernel)]; kernel_rfl) | (rw [if_neg (by decide +kernel)]; exact ⟨rfl, rfl⟩))
  (fun os started H enc _ => lifted os started H enc)
theorem card : Rows.LayoutRowsCardSaid :=
 Claim7.holds_tied_plain_at .later [] [.data, .pinned] true Rows.layoutRowsCard.stood.harness false over (fun _ h => by cases h) (by kernel_rfl) (fun _ h => by cases h) layoutRows_row_tie rfl ⟨rfl, rfl⟩ (by kernel_rfl) rfl
  (fun f fn hf hfn => by
   obtain rfl : f = 3 := Option.some.inj ((show Tryd.prog.funcNamed "copyist/copyistlaw35.LayoutRows" = some 3 by kernel_rfl).symm.trans hf) |>.symm
   obtain rfl : fn = Tryd.f3 := (Option.some.inj (Tryd.func3.symm.trans hfn)).symm
   exact ⟨by kernel_rfl, fun j t ht => by
    rw [Tryd.params3] at ht
    have hm : t ∈ [22, 3, 4] := by have hme := Array.mem_of_getElem? ht; simp at hme ⊢; first | omega | (rcases hme with h | h | h | h | h | h | h <;> simp [h]; done) | (rcases hme with h | h | h | h | h | h <;> simp [h]; done) | (rcases hme with h | h | h | h <;> simp [h]; done) | (rcases hme with h | h | h <;> simp [h]; done) | (trace_state; fail)
    have hall : ([22, 3, 4].all fun u => !Tryd.prog.wantsStandIn u) = true := by kernel_rfl
    exact (show Tryd.prog.wantsStandIn t = false by simpa using List.all_eq_true.1 hall t hm)⟩)
  (by kernel_rfl)
#print axioms card
end Go.Proofs.YtppjgofjjcdcdaaDoor.layoutRows
namespace Go.Proofs.YtppjgofjjcdcdaaDoor
/-- The card, under a short name, for the claim. -/
theorem layoutRows_holds : Rows.LayoutRowsCardSaid := layoutRows.card
end Go.Proofs.YtppjgofjjcdcdaaDoor
