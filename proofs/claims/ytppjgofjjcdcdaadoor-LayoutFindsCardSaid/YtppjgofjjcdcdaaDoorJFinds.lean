/- LayoutFinds holds: whatever the input, the call returns true and the arguments read as they did (the two tables of unicode/utf8 as the text lays them); tied to the program's text. -/
import Derived.Test.YtppjgofjjcdcdaaDoorJF
import Derived.Test.YtppjgofjjcdcdaaDoorJG
import Derived.Test.YtppjgofjjcdcdaaDoorJB
import Derived.Test.YtppjgofjjcdcdaaDoorPLayoutFindsx2
import Derived.Test.YtppjgofjjcdcdaaDoorRows
import Derived.Test.YtppjgofjjcdcdaaDoorTie
import Derived.Test.YtppjgofjjcdcdaaDoorCards
import Derived.ProofKit
import Derived.OpenShut
import Derived.LaidMore
import Derived.Lay
import Derived.SevenTiedAt
import Derived.Carry
import Derived.ChangeOld
import Derived.SizedLaws
set_option linter.unusedVariables false
set_option linter.unusedSimpArgs false
/- copyistref35.Where, At and Blank, copyistkit.CopyRows. -/
namespace Go.Proofs.YtppjgofjjcdcdaaDoor
open PLayoutRows
open Go.RowKit Go.Proofs.YtppjgofjjcdcdaaDoorW.PrintWords
set_option maxRecDepth 100000
set_option maxHeartbeats 4000000 in
theorem refWhere_any (A : Option Addr) (c : Nat) (rows : List Row) (n : Nat) (hn : rows.length = n) (pos : Int) (w : World) (hC : Kd.C k39 w A n rows) :
    Calls Tryd.prog 21 #[.slice A n c, .int .i64 pos] w fun e w' => e = .returned (.tuple #[.int .i64 (whereP rows pos).1, .int .i64 (whereP rows pos).2.1, .bool (whereP rows pos).2.2]) ∧ w = w' := by
  have hnb : n ≤ 9223372036854775807 := hC.2.1
  obtain ⟨r, hr⟩ : ∃ r, whereP rows pos = r := ⟨_, rfl⟩
  rw [hr]
  have HR := Lib.hid hr
  have HC := Lib.hid hC
  have HN := Lib.hid hn
  clear hr hC hn
  go_enter Tryd.func21, Tryd.ntmps21
  go_wp2
  obtain ⟨sc7, hsc7⟩ : ∃ s, scanP (isP false pos) rows 0 = s := ⟨_, rfl⟩
  have HSC7 := Lib.hid hsc7
  clear hsc7
  go_loop [7] (fun i => ∃ q : Nat, i = .int .i64 q ∧ q ≤ n ∧ scanP (isP false pos) (rows.drop q) (q : Int) = sc7) (fun i => n - (intOf i).toNat)
  case atStart => exact ⟨0, rfl, Nat.zero_le _, HSC7.out⟩
  case round =>
    obtain ⟨q, rfl, hq, hs⟩ := hrel
    by_cases hlt : q < n
    · obtain ⟨ad, A0, c0, A1, c1, rfl, -, x1, -, -, -, -, -, -, g1⟩ := at_T39 HC.out (q : Int) (by omega) (by omega)
      have hst := scan_step (isP false pos) rows q (by have := HN.out; omega)
      obtain ⟨P, hP⟩ : ∃ P, (rd_T39 rows (q : Int)).f1 = P := ⟨_, rfl⟩
      rw [hP, Int.toNat_natCast] at x1
      rw [hP] at g1 hst
      obtain ⟨m, hm⟩ : ∃ m, P.length = m := ⟨_, rfl⟩
      rw [hm] at x1 g1
      obtain ⟨x, hx⟩ : ∃ x, idxP (isP false pos) P = x := ⟨_, rfl⟩
      rw [hx] at hst
      rw [hs] at hst
      have HST := Lib.hid hst
      have HM := Lib.hid hm
      have HX := Lib.hid hx
      have G1 := Lib.hid g1
      have hmb : m ≤ 9223372036854775807 := g1.2.1
      have hq0 : (0 : Int) ≤ (q : Int) := by omega
      have hq1 : (q : Int) < (n : Int) := by omega
      clear hs hst hP hm hx g1
      go_wp2
      go_loop [8] (fun k => ∃ j : Nat, k = .int .i64 j ∧ j ≤ m ∧ Lib.idxByFrom (fun _ y => isP false pos y) (default : Int) (P.drop j) j = x) (fun k => m - (intOf k).toNat)
      case atStart => exact ⟨0, rfl, Nat.zero_le _, HX.out⟩
      case round =>
        obtain ⟨j, rfl, hj, hi⟩ := hrel
        by_cases hjt : j < m
        · obtain ⟨ap, rfl, hz⟩ := at_int G1.out j hjt
          rw [idx_step (isP false pos) P j (by have := HM.out; omega)] at hi
          obtain ⟨z, hzz⟩ : ∃ z, P.getD j 0 = z := ⟨_, rfl⟩
          rw [hzz] at hi hz
          have hj0 : (0 : Int) ≤ (j : Int) := by omega
          have hj1 : (j : Int) < (m : Int) := by omega
          clear hzz
          cases hpz : isP false pos z with
          | true =>
            rw [hpz, if_pos rfl] at hi
            subst hi
            have hz1 : (z == pos) = true := by simp [isP] at hpz; simp [hpz.2]
            have hz2 : (pos != -1) = true := by simp [isP] at hpz; simp; omega
            clear hpz
            go_wp2_with (first | (((with_reducible refine wpList_unguard ?_ ?_); (focus rfl))) | (((with_reducible refine wpList_pass ?_ (by kernel_rfl) ?_); (focus rfl))))
            go_ret3
            have hr : r = ((q : Int), (j : Int), true) := by
              rw [← HR.out]
              unfold whereP
              rw [HSC7.out, HST.out, if_pos (by omega)]
            subst hr
            exact ⟨rfl, rfl⟩
          | false =>
            rw [hpz, if_neg (by simp)] at hi
            have HI := Lib.hid hi
            clear hi
            by_cases hz1 : z = pos
            · have hz1b : (z == pos) = true := by simp [hz1]
              have hz2 : (pos != -1) = false := by simp [isP, hz1] at hpz; simp [hpz]
              clear hpz hz1
              go_wp2_with (first | (((with_reducible refine wpList_unguard ?_ ?_); (focus rfl))) | (((with_reducible refine wpList_pass ?_ (by kernel_rfl) ?_); (focus rfl))))
              go_round
              case rel => exact ⟨j + 1, by go_num, by omega, HI.out⟩
              case measure => simp [intOf]; omega
            · have hz1b : (z == pos) = false := by simp [hz1]
              clear hpz hz1
              go_wp2_with (first | (((with_reducible refine wpList_unguard ?_ ?_); (focus rfl))) | (((with_reducible refine wpList_pass ?_ (by kernel_rfl) ?_); (focus rfl))))
              go_round
              case rel => exact ⟨j + 1, by go_num, by omega, HI.out⟩
              case measure => simp [intOf]; omega
        · have hjm : j = m := by omega
          have hx1 : x = -1 := by rw [← hi, List.drop_of_length_le (by have := HM.out; omega)]; rfl
          have hs2 := HST.out
          rw [hx1, if_neg (by omega)] at hs2
          have HS2 := Lib.hid hs2
          clear hi hx1 hs2 HST HX
          subst hjm
          go_wp2_with (first | (((with_reducible refine wpList_unguard ?_ ?_); (focus rfl))) | (((with_reducible refine wpList_pass ?_ (by kernel_rfl) ?_); (focus rfl))))
          go_round
          case rel => exact ⟨q + 1, by go_num, by omega, HS2.out.symm⟩
          case measure => simp [intOf]; omega
    · have hqn : n = q := by omega
      have hsn : sc7 = none := by rw [← hs, List.drop_of_length_le (by have := HN.out; omega)]; rfl
      have HSN7 := Lib.hid hsn
      clear hs hsn
      subst hqn
      go_wp2_with (first | (((with_reducible refine wpList_unguard ?_ ?_); (focus rfl))) | (((with_reducible refine wpList_pass ?_ (by kernel_rfl) ?_); (focus rfl))))
      obtain ⟨sc9, hsc9⟩ : ∃ s, scanP (isP true pos) rows 0 = s := ⟨_, rfl⟩
      have HSC9 := Lib.hid hsc9
      clear hsc9
      go_loop [9] (fun i => ∃ q : Nat, i = .int .i64 q ∧ q ≤ n ∧ scanP (isP true pos) (rows.drop q) (q : Int) = sc9) (fun i => n - (intOf i).toNat)
      case atStart => exact ⟨0, rfl, Nat.zero_le _, HSC9.out⟩
      case round =>
        obtain ⟨q, rfl, hq, hs⟩ := hrel
        by_cases hlt : q < n
        · obtain ⟨ad, A0, c0, A1, c1, rfl, -, x1, -, -, -, -, -, -, g1⟩ := at_T39 HC.out (q : Int) (by omega) (by omega)
          have hst := scan_step (isP true pos) rows q (by have := HN.out; omega)
          obtain ⟨P, hP⟩ : ∃ P, (rd_T39 rows (q : Int)).f1 = P := ⟨_, rfl⟩
          rw [hP, Int.toNat_natCast] at x1
          rw [hP] at g1 hst
          obtain ⟨m, hm⟩ : ∃ m, P.length = m := ⟨_, rfl⟩
          rw [hm] at x1 g1
          obtain ⟨x, hx⟩ : ∃ x, idxP (isP true pos) P = x := ⟨_, rfl⟩
          rw [hx] at hst
          rw [hs] at hst
          have HST := Lib.hid hst
          have HM := Lib.hid hm
          have HX := Lib.hid hx
          have G1 := Lib.hid g1
          have hmb : m ≤ 9223372036854775807 := g1.2.1
          have hq0 : (0 : Int) ≤ (q : Int) := by omega
          have hq1 : (q : Int) < (n : Int) := by omega
          clear hs hst hP hm hx g1
          go_wp2
          go_loop [10] (fun k => ∃ j : Nat, k = .int .i64 j ∧ j ≤ m ∧ Lib.idxByFrom (fun _ y => isP true pos y) (default : Int) (P.drop j) j = x) (fun k => m - (intOf k).toNat)
          case atStart => exact ⟨0, rfl, Nat.zero_le _, HX.out⟩
          case round =>
            obtain ⟨j, rfl, hj, hi⟩ := hrel
            by_cases hjt : j < m
            · obtain ⟨ap, rfl, hz⟩ := at_int G1.out j hjt
              rw [idx_step (isP true pos) P j (by have := HM.out; omega)] at hi
              obtain ⟨z, hzz⟩ : ∃ z, P.getD j 0 = z := ⟨_, rfl⟩
              rw [hzz] at hi hz
              have hj0 : (0 : Int) ≤ (j : Int) := by omega
              have hj1 : (j : Int) < (m : Int) := by omega
              clear hzz
              cases hpz : isP true pos z with
              | true =>
                rw [hpz, if_pos rfl] at hi
                subst hi
                have hz1 : decide (pos < z) = true := by simp [isP] at hpz; simp [hpz.2]
                have hz2 : (z != -1) = true := by simp [isP] at hpz; simp; exact hpz.1
                clear hpz
                go_wp2_with (first | (((with_reducible refine wpList_unguard ?_ ?_); (focus rfl))) | (((with_reducible refine wpList_pass ?_ (by kernel_rfl) ?_); (focus rfl))))
                go_ret3
                have hr : r = ((q : Int), (j : Int), true) := by
                  rw [← HR.out]
                  unfold whereP
                  rw [HSC7.out, HSN7.out]
                  simp only []
                  rw [HSC9.out, HST.out, if_pos (by omega)]
                subst hr
                exact ⟨rfl, rfl⟩
              | false =>
                rw [hpz, if_neg (by simp)] at hi
                have HI := Lib.hid hi
                clear hi
                by_cases hz1 : pos < z
                · have hz1b : decide (pos < z) = true := by simp [hz1]
                  have hz2 : (z != -1) = false := by simp [isP, hz1] at hpz; simp [hpz]
                  clear hpz hz1
                  go_wp2_with (first | (((with_reducible refine wpList_unguard ?_ ?_); (focus rfl))) | (((with_reducible refine wpList_pass ?_ (by kernel_rfl) ?_); (focus rfl))))
                  go_round
                  case rel => exact ⟨j + 1, by go_num, by omega, HI.out⟩
                  case measure => simp [intOf]; omega
                · have hz1b : decide (pos < z) = false := by simp [hz1]
                  clear hpz hz1
                  go_wp2_with (first | (((with_reducible refine wpList_unguard ?_ ?_); (focus rfl))) | (((with_reducible refine wpList_pass ?_ (by kernel_rfl) ?_); (focus rfl))))
                  go_round
                  case rel => exact ⟨j + 1, by go_num, by omega, HI.out⟩
                  case measure => simp [intOf]; omega
            · have hjm : j = m := by omega
              have hx1 : x = -1 := by rw [← hi, List.drop_of_length_le (by have := HM.out; omega)]; rfl
              have hs2 := HST.out
              rw [hx1, if_neg (by omega)] at hs2
              have HS2 := Lib.hid hs2
              clear hi hx1 hs2 HST HX
              subst hjm
              go_wp2_with (first | (((with_reducible refine wpList_unguard ?_ ?_); (focus rfl))) | (((with_reducible refine wpList_pass ?_ (by kernel_rfl) ?_); (focus rfl))))
              go_round
              case rel => exact ⟨q + 1, by go_num, by omega, HS2.out.symm⟩
              case measure => simp [intOf]; omega
        · have hqn : n = q := by omega
          have hsn : sc9 = none := by rw [← hs, List.drop_of_length_le (by have := HN.out; omega)]; rfl
          have HSN9 := Lib.hid hsn
          clear hs hsn
          subst hqn
          go_wp2_with (first | (((with_reducible refine wpList_unguard ?_ ?_); (focus rfl))) | (((with_reducible refine wpList_pass ?_ (by kernel_rfl) ?_); (focus rfl))))
          go_ret3
          have hr : r = (0, 0, false) := by
            rw [← HR.out]
            unfold whereP
            rw [HSC7.out, HSN7.out]
            simp only []
            rw [HSC9.out, HSN9.out]
          subst hr
          exact ⟨rfl, rfl⟩
end Go.Proofs.YtppjgofjjcdcdaaDoor

/- copyistref35.At. -/
namespace Go.Proofs.YtppjgofjjcdcdaaDoor
open PLayoutRows
open Go.RowKit Go.Proofs.YtppjgofjjcdcdaaDoorW.PrintWords
set_option maxRecDepth 100000
set_option maxHeartbeats 4000000 in
theorem refAt_any (A : Option Addr) (c : Nat) (rows : List Row) (n : Nat) (hn : rows.length = n) (row col : Int) (w : World) (hC : Kd.C k39 w A n rows) :
    Calls Tryd.prog 23 #[.slice A n c, .int .i64 row, .int .i64 col] w fun e w' => e = .returned (.tuple #[.int .i64 (atP rows row col).1, .bool (atP rows row col).2]) ∧ w = w' := by
  have hnb : n ≤ 9223372036854775807 := hC.2.1
  obtain ⟨r, hr⟩ : ∃ r, atP rows row col = r := ⟨_, rfl⟩
  rw [hr]
  have HR := Lib.hid hr
  have HC := Lib.hid hC
  have HN := Lib.hid hn
  clear hr hC hn
  go_enter Tryd.func23, Tryd.ntmps23
  by_cases h1 : row < 0
  · have hr : r = (0, false) := by rw [← HR.out]; unfold atP; rw [if_pos (.inl h1)]
    clear HR
    subst hr
    go_wp2_with (first | (((with_reducible refine wpList_unguard ?_ ?_); (focus rfl))) | (((with_reducible refine wpList_pass ?_ (by kernel_rfl) ?_); (focus rfl))))
    go_ret2
    exact ⟨rfl, rfl⟩
  · by_cases h2 : (n : Int) ≤ row
    · have hr : r = (0, false) := by rw [← HR.out]; unfold atP; rw [HN.out, if_pos (.inr h2)]
      clear HR
      subst hr
      go_wp2_with (first | (((with_reducible refine wpList_unguard ?_ ?_); (focus rfl))) | (((with_reducible refine wpList_pass ?_ (by kernel_rfl) ?_); (focus rfl))))
      go_ret2
      exact ⟨rfl, rfl⟩
    · obtain ⟨k, rfl⟩ : ∃ k : Nat, row = k := ⟨row.toNat, by omega⟩
      have hrp : r = colP (rd_T39 rows (k : Int)).f1 col := by rw [← HR.out]; unfold atP; rw [HN.out, if_neg (by omega)]
      obtain ⟨ad, A0, c0, A1, c1, rfl, -, x1, -, -, -, -, -, -, g1⟩ := at_T39 HC.out (k : Int) (by omega) (by omega)
      obtain ⟨p, hp⟩ : ∃ p, (rd_T39 rows (k : Int)).f1 = p := ⟨_, rfl⟩
      rw [hp, Int.toNat_natCast] at x1
      rw [hp] at g1 hrp
      obtain ⟨m, hm⟩ : ∃ m, p.length = m := ⟨_, rfl⟩
      rw [hm] at x1 g1
      have HM := Lib.hid hm
      have HRP := Lib.hid hrp
      have G1 := Lib.hid g1
      have hmb : m ≤ 9223372036854775807 := g1.2.1
      clear HR hp hm hrp g1
      have hk1 : (0 : Int) ≤ (k : Int) := by omega
      have hk2 : (k : Int) < (n : Int) := by omega
      have h1' : decide ((k : Int) < 0) = false := by simp
      by_cases h3 : 0 ≤ col ∧ col < m
      · obtain ⟨j, rfl⟩ : ∃ j : Nat, col = j := ⟨col.toNat, by omega⟩
        have hj0 : (0 : Int) ≤ (j : Int) := by omega
        have hj1 : (j : Int) < (m : Int) := by omega
        have hj2 : decide ((j : Int) < 0) = false := by simp
        obtain ⟨aj, rfl, hz⟩ := at_int G1.out j (by omega)
        obtain ⟨z, hzz⟩ : ∃ z, p.getD j 0 = z := ⟨_, rfl⟩
        rw [hzz] at hz
        have HZ := Lib.hid hzz
        clear hzz h3
        by_cases h5 : z = -1
        · have hrl : r = lastP p := by rw [HRP.out]; unfold colP; rw [Int.toNat_natCast, HZ.out, if_neg (by omega)]
          have h5z : (z != -1) = false := by simp [h5]
          have HRL := Lib.hid hrl
          clear hrl HRP h5
          go_wp2_with (first | (((with_reducible refine wpList_unguard ?_ ?_); (focus rfl))) | (((with_reducible refine wpList_pass ?_ (by kernel_rfl) ?_); (focus rfl))))
          go_loop [9] (fun i => ∃ d : Nat, i = .int .i64 ((m : Int) - 1 - d) ∧ d ≤ m ∧ ∀ y ∈ backsTo p d, y.2 = -1) (fun i => (intOf i + 1).toNat)
          case atStart => exact ⟨0, by first | (simp; done) | (simp; omega), Nat.zero_le _, by simp [backsTo]⟩
          case round =>
            obtain ⟨d, rfl, hd, hall⟩ := hrel
            by_cases hlt : d < m
            · obtain ⟨q, hq⟩ : ∃ q : Nat, m - 1 - d = q := ⟨_, rfl⟩
              obtain ⟨ap, hAP, hy⟩ := at_int G1.out q (by omega)
              cases hAP
              obtain ⟨x, hx⟩ : ∃ x, p.getD q 0 = x := ⟨_, rfl⟩
              rw [hx] at hy
              have hsu := backsTo_succ p d
              rw [HM.out, hq, hx] at hsu
              have hqi : (m : Int) - 1 - d = (q : Int) := by omega
              rw [hqi]
              have hq0 : (0 : Int) ≤ (q : Int) := by omega
              have hq1 : (q : Int) < (m : Int) := by omega
              have HSU := Lib.hid hsu
              have HALL := Lib.hid hall
              have HQI := Lib.hid hqi
              clear hq hx hsu hall hqi
              by_cases h5 : x = -1
              · have h5b : (x != -1) = false := by simp [h5]
                have HX := Lib.hid h5
                clear h5
                go_wp2_with (first | (((with_reducible refine wpList_unguard ?_ ?_); (focus rfl))) | (((with_reducible refine wpList_pass ?_ (by kernel_rfl) ?_); (focus rfl))))
                go_round
                case rel =>
                  refine ⟨d + 1, by have := HQI.out; congr 1; omega, by omega, ?_⟩
                  rw [HSU.out]
                  intro y hy'
                  rcases List.mem_append.1 hy' with h | h
                  · exact HALL.out y h
                  · rw [List.mem_singleton] at h; rw [h]; exact HX.out
                case measure => simp [intOf]
              · have h5b : (x != -1) = true := by simp [h5]
                have hrx : r = (x, true) := by
                  rw [HRL.out]
                  refine lastP_some (ys := backsTo p d) (x := ((q : Int), x)) ?_ HALL.out h5
                  rw [← HSU.out]
                  exact backsTo_pre p (d + 1) (by have := HM.out; omega)
                clear h5 HRL
                subst hrx
                go_wp2_with (first | (((with_reducible refine wpList_unguard ?_ ?_); (focus rfl))) | (((with_reducible refine wpList_pass ?_ (by kernel_rfl) ?_); (focus rfl))))
                go_ret2
                exact ⟨rfl, rfl⟩
            · have hdm : m = d := by omega
              have hr0 : r = (0, false) := by
                rw [HRL.out]
                refine lastP_none ?_
                unfold backs
                rw [HM.out, hdm]
                exact hall
              clear hall HRL
              subst hdm
              subst hr0
              have hmm : (m : Int) - 1 - (m : Int) = -1 := by omega
              rw [hmm]
              go_wp2_with (first | (((with_reducible refine wpList_unguard ?_ ?_); (focus rfl))) | (((with_reducible refine wpList_pass ?_ (by kernel_rfl) ?_); (focus rfl))))
              go_ret2
              exact ⟨rfl, rfl⟩
        · have hrl : r = (z, true) := by rw [HRP.out]; unfold colP; rw [HM.out, Int.toNat_natCast, HZ.out, if_pos ⟨hj0, hj1, h5⟩]
          have h5z : (z != -1) = true := by simp [h5]
          clear HRP h5
          subst hrl
          go_wp2_with (first | (((with_reducible refine wpList_unguard ?_ ?_); (focus rfl))) | (((with_reducible refine wpList_pass ?_ (by kernel_rfl) ?_); (focus rfl))))
          go_ret2
          exact ⟨rfl, rfl⟩
      · have hrl : r = lastP p := by rw [HRP.out]; unfold colP; rw [HM.out, if_neg (by omega)]
        have HRL := Lib.hid hrl
        clear hrl HRP
        rcases Nat.eq_zero_or_pos m with hm0 | hm0
        · subst hm0
          have hr0 : r = (0, false) := by
            rw [HRL.out, List.length_eq_zero_iff.1 HM.out]; rfl
          clear HRL
          subst hr0
          by_cases h4 : col < 0
          · go_wp2_with (first | (((with_reducible refine wpList_unguard ?_ ?_); (focus rfl))) | (((with_reducible refine wpList_pass ?_ (by kernel_rfl) ?_); (focus rfl))))
            refine wp_loop_rounds 1 ?_
            rw [rounds_succ]
            go_wp2_with (first | (((with_reducible refine wpList_unguard ?_ ?_); (focus rfl))) | (((with_reducible refine wpList_pass ?_ (by kernel_rfl) ?_); (focus rfl))))
            go_ret2
            exact ⟨rfl, rfl⟩
          · have h4' : 0 ≤ col := by omega
            go_wp2_with (first | (((with_reducible refine wpList_unguard ?_ ?_); (focus rfl))) | (((with_reducible refine wpList_pass ?_ (by kernel_rfl) ?_); (focus rfl))))
            refine wp_loop_rounds 1 ?_
            rw [rounds_succ]
            go_wp2_with (first | (((with_reducible refine wpList_unguard ?_ ?_); (focus rfl))) | (((with_reducible refine wpList_pass ?_ (by kernel_rfl) ?_); (focus rfl))))
            go_ret2
            exact ⟨rfl, rfl⟩
        · obtain ⟨q, hq⟩ : ∃ q : Nat, m = q + 1 := ⟨m - 1, by omega⟩
          obtain ⟨aj, rfl, hz⟩ := at_int G1.out q (by omega)
          obtain ⟨z, hzz⟩ : ∃ z, p.getD q 0 = z := ⟨_, rfl⟩
          rw [hzz] at hz
          have hqq : (m : Int) - 1 = (q : Int) := by omega
          have hq0 : (0 : Int) ≤ (q : Int) := by omega
          have hq1 : (q : Int) < (m : Int) := by omega
          have HZ := Lib.hid hzz
          have HQ := Lib.hid hq
          clear hzz hq
          have hh3 : (decide (col < 0) || decide ((m : Int) ≤ col)) = true := by simp; omega
          by_cases h5 : z = -1
          · have h5z : (z != -1) = false := by simp [h5]
            clear h5
            by_cases h4 : col < 0
            · go_wp2_with (first | (((with_reducible refine wpList_unguard ?_ ?_); (focus rfl))) | (((with_reducible refine wpList_pass ?_ (by kernel_rfl) ?_); (focus rfl))))
              go_loop [9] (fun i => ∃ d : Nat, i = .int .i64 ((m : Int) - 1 - d) ∧ d ≤ m ∧ ∀ y ∈ backsTo p d, y.2 = -1) (fun i => (intOf i + 1).toNat)
              case atStart => exact ⟨0, by first | (simp; done) | (simp; omega), Nat.zero_le _, by simp [backsTo]⟩
              case round =>
                obtain ⟨d, rfl, hd, hall⟩ := hrel
                by_cases hlt : d < m
                · obtain ⟨q, hq⟩ : ∃ q : Nat, m - 1 - d = q := ⟨_, rfl⟩
                  obtain ⟨ap, hAP, hy⟩ := at_int G1.out q (by omega)
                  cases hAP
                  obtain ⟨x, hx⟩ : ∃ x, p.getD q 0 = x := ⟨_, rfl⟩
                  rw [hx] at hy
                  have hsu := backsTo_succ p d
                  rw [HM.out, hq, hx] at hsu
                  have hqi : (m : Int) - 1 - d = (q : Int) := by omega
                  rw [hqi]
                  have hq0 : (0 : Int) ≤ (q : Int) := by omega
                  have hq1 : (q : Int) < (m : Int) := by omega
                  have HSU := Lib.hid hsu
                  have HALL := Lib.hid hall
                  have HQI := Lib.hid hqi
                  clear hq hx hsu hall hqi
                  by_cases h5 : x = -1
                  · have h5b : (x != -1) = false := by simp [h5]
                    have HX := Lib.hid h5
                    clear h5
                    go_wp2_with (first | (((with_reducible refine wpList_unguard ?_ ?_); (focus rfl))) | (((with_reducible refine wpList_pass ?_ (by kernel_rfl) ?_); (focus rfl))))
                    go_round
                    case rel =>
                      refine ⟨d + 1, by have := HQI.out; congr 1; omega, by omega, ?_⟩
                      rw [HSU.out]
                      intro y hy'
                      rcases List.mem_append.1 hy' with h | h
                      · exact HALL.out y h
                      · rw [List.mem_singleton] at h; rw [h]; exact HX.out
                    case measure => simp [intOf]
                  · have h5b : (x != -1) = true := by simp [h5]
                    have hrx : r = (x, true) := by
                      rw [HRL.out]
                      refine lastP_some (ys := backsTo p d) (x := ((q : Int), x)) ?_ HALL.out h5
                      rw [← HSU.out]
                      exact backsTo_pre p (d + 1) (by have := HM.out; omega)
                    clear h5 HRL
                    subst hrx
                    go_wp2_with (first | (((with_reducible refine wpList_unguard ?_ ?_); (focus rfl))) | (((with_reducible refine wpList_pass ?_ (by kernel_rfl) ?_); (focus rfl))))
                    go_ret2
                    exact ⟨rfl, rfl⟩
                · have hdm : m = d := by omega
                  have hr0 : r = (0, false) := by
                    rw [HRL.out]
                    refine lastP_none ?_
                    unfold backs
                    rw [HM.out, hdm]
                    exact hall
                  clear hall HRL
                  subst hdm
                  subst hr0
                  have hmm : (m : Int) - 1 - (m : Int) = -1 := by omega
                  rw [hmm]
                  go_wp2_with (first | (((with_reducible refine wpList_unguard ?_ ?_); (focus rfl))) | (((with_reducible refine wpList_pass ?_ (by kernel_rfl) ?_); (focus rfl))))
                  go_ret2
                  exact ⟨rfl, rfl⟩
            · have h4' : decide (col < 0) = false := by simp; omega
              have h4b : (m : Int) ≤ col := by omega
              go_wp2_with (first | (((with_reducible refine wpList_unguard ?_ ?_); (focus rfl))) | (((with_reducible refine wpList_pass ?_ (by kernel_rfl) ?_); (focus rfl))))
              go_loop [9] (fun i => ∃ d : Nat, i = .int .i64 ((m : Int) - 1 - d) ∧ d ≤ m ∧ ∀ y ∈ backsTo p d, y.2 = -1) (fun i => (intOf i + 1).toNat)
              case atStart => exact ⟨0, by first | (simp; done) | (simp; omega), Nat.zero_le _, by simp [backsTo]⟩
              case round =>
                obtain ⟨d, rfl, hd, hall⟩ := hrel
                by_cases hlt : d < m
                · obtain ⟨q, hq⟩ : ∃ q : Nat, m - 1 - d = q := ⟨_, rfl⟩
                  obtain ⟨ap, hAP, hy⟩ := at_int G1.out q (by omega)
                  cases hAP
                  obtain ⟨x, hx⟩ : ∃ x, p.getD q 0 = x := ⟨_, rfl⟩
                  rw [hx] at hy
                  have hsu := backsTo_succ p d
                  rw [HM.out, hq, hx] at hsu
                  have hqi : (m : Int) - 1 - d = (q : Int) := by omega
                  rw [hqi]
                  have hq0 : (0 : Int) ≤ (q : Int) := by omega
                  have hq1 : (q : Int) < (m : Int) := by omega
                  have HSU := Lib.hid hsu
                  have HALL := Lib.hid hall
                  have HQI := Lib.hid hqi
                  clear hq hx hsu hall hqi
                  by_cases h5 : x = -1
                  · have h5b : (x != -1) = false := by simp [h5]
                    have HX := Lib.hid h5
                    clear h5
                    go_wp2_with (first | (((with_reducible refine wpList_unguard ?_ ?_); (focus rfl))) | (((with_reducible refine wpList_pass ?_ (by kernel_rfl) ?_); (focus rfl))))
                    go_round
                    case rel =>
                      refine ⟨d + 1, by have := HQI.out; congr 1; omega, by omega, ?_⟩
                      rw [HSU.out]
                      intro y hy'
                      rcases List.mem_append.1 hy' with h | h
                      · exact HALL.out y h
                      · rw [List.mem_singleton] at h; rw [h]; exact HX.out
                    case measure => simp [intOf]
                  · have h5b : (x != -1) = true := by simp [h5]
                    have hrx : r = (x, true) := by
                      rw [HRL.out]
                      refine lastP_some (ys := backsTo p d) (x := ((q : Int), x)) ?_ HALL.out h5
                      rw [← HSU.out]
                      exact backsTo_pre p (d + 1) (by have := HM.out; omega)
                    clear h5 HRL
                    subst hrx
                    go_wp2_with (first | (((with_reducible refine wpList_unguard ?_ ?_); (focus rfl))) | (((with_reducible refine wpList_pass ?_ (by kernel_rfl) ?_); (focus rfl))))
                    go_ret2
                    exact ⟨rfl, rfl⟩
                · have hdm : m = d := by omega
                  have hr0 : r = (0, false) := by
                    rw [HRL.out]
                    refine lastP_none ?_
                    unfold backs
                    rw [HM.out, hdm]
                    exact hall
                  clear hall HRL
                  subst hdm
                  subst hr0
                  have hmm : (m : Int) - 1 - (m : Int) = -1 := by omega
                  rw [hmm]
                  go_wp2_with (first | (((with_reducible refine wpList_unguard ?_ ?_); (focus rfl))) | (((with_reducible refine wpList_pass ?_ (by kernel_rfl) ?_); (focus rfl))))
                  go_ret2
                  exact ⟨rfl, rfl⟩
          · have h5z : (z != -1) = true := by simp [h5]
            have hrx : r = (z, true) := by
              rw [HRL.out]
              refine lastP_some (ys := []) (x := ((q : Int), z)) ?_ (by simp) h5
              have hsu := backsTo_succ p 0
              rw [HM.out, show m - 1 - 0 = q by have := HQ.out; omega, HZ.out] at hsu
              have h := backsTo_pre p 1 (by have := HM.out; omega)
              rw [hsu] at h
              exact h
            clear HRL h5
            subst hrx
            by_cases h4 : col < 0
            · go_wp2_with (first | (((with_reducible refine wpList_unguard ?_ ?_); (focus rfl))) | (((with_reducible refine wpList_pass ?_ (by kernel_rfl) ?_); (focus rfl))))
              go_ret2
              exact ⟨rfl, rfl⟩
            · have h4' : decide (col < 0) = false := by simp; omega
              have h4b : (m : Int) ≤ col := by omega
              go_wp2_with (first | (((with_reducible refine wpList_unguard ?_ ?_); (focus rfl))) | (((with_reducible refine wpList_pass ?_ (by kernel_rfl) ?_); (focus rfl))))
              go_ret2
              exact ⟨rfl, rfl⟩
end Go.Proofs.YtppjgofjjcdcdaaDoor

/- copyistref35.Blank. -/
namespace Go.Proofs.YtppjgofjjcdcdaaDoor
open PLayoutRows
open Go.RowKit Go.Proofs.YtppjgofjjcdcdaaDoorW.PrintWords
structure BlkS (w : World) (k : Nat) (v : Value) (wr : World) : Prop where
  own : k78.R 78 wr w.heap.size (fun _ => True) v (blankP k)
  fr : Below w.heap.size w wr
theorem blankP_succ (k : Nat) : blankP (k + 1) = blankP k ++ [blankC] := by simp [blankP, List.replicate_succ']
def BlankRet (w : World) (m : Nat) (e : Ending) (w' : World) : Prop := ∃ A c, e = .returned (.slice A m c) ∧ Kd.C k78 w' A m (blankP m) ∧ Below w.heap.size w w'
set_option maxRecDepth 100000 in
set_option maxHeartbeats 1600000 in
theorem refBlank_any (width : Int) (hw : width ≤ 1000000) (w : World) :
    Calls Tryd.prog 26 #[.int .i64 width] w (BlankRet w width.toNat) := by
  go_enter Tryd.func26, Tryd.ntmps26
  go_wp2
  go_loopw [3, 4] (fun v i wr => ∃ k : Nat, k ≤ width.toNat ∧ i = .int .i64 k ∧ BlkS w k v wr) (fun _ i _ => width.toNat - (intOf i).toNat)
  case atStart => exact ⟨0, Nat.zero_le _, rfl, Kd.R_nil _ _ _ _ _, Below.refl _ _⟩
  case round =>
    obtain ⟨k, hk, rfl, hS⟩ := hrel
    by_cases hlt : (k : Int) < width
    · have hsz := b_size hS.fr
      have hlen : (blankP k).length = k := by simp [blankP]
      have hln : (blankP k).length ≤ 1000000 := by omega
      have HS := Lib.hid hS
      clear hS hlen
      go_wp2_with ((at_builtin; refine Kd.R_append k78 (w0 := w) w.heap.size rfl (.tmp 10) (.tmp 12) 36 78 (.agg #[(.int .i64 0), (.int .i64 0), (.int .i64 0), (.bool false), (.bool false), (.bool false)]) 32 rfl Tryd.underlying36 info78 rfl (by decide) (by omega) u3 (blankP k) blankC [.int .i64 32, .int .i64 0, .int .i64 0, .bool false, .bool false, .bool false] (fun _ => True) (fun _ => False) rfl rfl (k78_mkM _ _ _ blankC) (fun _ hk => hk.elim) (fun _ _ => trivial) HS.out.own HS.out.fr hsz (by omega) ?_; intro v1 w1 hO1 hB1 _ _; have HO1 := Lib.hid hO1; have HB1 := Lib.hid hB1; clear hO1 hB1))
      go_roundw
      case rel => exact ⟨k + 1, by omega, by go_num, by rw [blankP_succ]; exact HO1.out, HB1.out⟩
      case measure => simp [intOf]; omega
    · have hkl : k = width.toNat := by omega
      obtain ⟨hO, hB⟩ := hS
      obtain ⟨A', c', rfl, hc', hCr⟩ := Kd.R_reads hO
      have hlen : (blankP k).length = k := by simp [blankP]
      rw [hlen] at hCr ⊢
      have HC := Lib.hid hCr
      have HB := Lib.hid hB
      have HK := Lib.hid hkl
      clear hO hB hCr hkl hlen hc'
      go_wp2
      go_ret
      rw [← HK.out]
      exact ⟨A', c', rfl, HC.out, HB.out⟩
end Go.Proofs.YtppjgofjjcdcdaaDoor

/- copyistkit.CopyRows: its contract, carried over to the kinds that the other texts speak of. -/
namespace Go.Proofs.YtppjgofjjcdcdaaDoor
open Go.RowKit Go.Proofs.YtppjgofjjcdcdaaDoorW.PrintWords
namespace Cv
abbrev FLook := PLayoutFinds.S53
abbrev FCell := PLayoutFinds.S78
abbrev FRow := PLayoutFinds.S39
def look (x : Look) : FLook := ⟨x.f0, x.f1, x.f2, x.f3, x.f4⟩
def unlook (x : FLook) : Look := ⟨x.f0, x.f1, x.f2, x.f3, x.f4⟩
def cell (x : Cell) : FCell := ⟨x.f0, look x.f1⟩
def uncell (x : FCell) : Cell := ⟨x.f0, unlook x.f1⟩
def row (x : Row) : FRow := ⟨x.f0.map cell, x.f1, x.f2, x.f3, x.f4⟩
def unrow (x : FRow) : Row := ⟨x.f0.map uncell, x.f1, x.f2, x.f3, x.f4⟩
theorem C_map {α β : Type} {d : Kd α} {d' : Kd β} {f : α → β} {w : World} (hs : d.sz = d'.sz) (h : ∀ x cs, d.K w x cs → d'.K w (f x) cs) {A : Option Addr} {n : Nat} {xs : List α} (hC : Kd.C d w A n xs) : Kd.C d' w A n (xs.map f) := by
  obtain ⟨h1, h2, h3⟩ := hC
  refine ⟨by rw [List.length_map]; exact h1, h2, fun h0 => ?_⟩
  obtain ⟨ad, hA, hj⟩ := h3 h0
  refine ⟨ad, hA, fun j p hp => ?_⟩
  rw [List.getElem?_map, Option.map_eq_some_iff] at hp
  obtain ⟨x, hx, rfl⟩ := hp
  obtain ⟨c, hl, hR, hcell⟩ := hj j x hx
  exact ⟨c, by rw [← hs]; exact hl, h x c hR, by rw [← hs]; exact hcell⟩
theorem slice_map {α β : Type} {d : Kd α} {d' : Kd β} {f : α → β} {w : World} {e : Nat} (hs : d.sz = d'.sz) (h : ∀ x cs, d.K w x cs → d'.K w (f x) cs) {xs : List α} {cs : List Value} (hK : (Kd.slice e d).K w xs cs) : (Kd.slice e d').K w (xs.map f) cs := by
  obtain ⟨A, c, rfl, hl, hC⟩ := hK
  exact ⟨A, c, by rw [List.length_map], by rw [List.length_map]; exact hl, by rw [List.length_map]; exact C_map hs h hC⟩
theorem look_K {w : World} (x : Look) (cs : List Value) (h : PLayoutRows.k53.K w x cs) : PLayoutFinds.k53.K w (look x) cs := h
theorem unlook_K {w : World} (x : FLook) (cs : List Value) (h : PLayoutFinds.k53.K w x cs) : PLayoutRows.k53.K w (unlook x) cs := h
theorem cell_K {w : World} (x : Cell) (cs : List Value) (h : PLayoutRows.k78.K w x cs) : PLayoutFinds.k78.K w (cell x) cs := h
theorem uncell_K {w : World} (x : FCell) (cs : List Value) (h : PLayoutFinds.k78.K w x cs) : PLayoutRows.k78.K w (uncell x) cs := h
theorem row_K {w : World} (x : Row) (cs : List Value) (h : PLayoutRows.k39.K w x cs) : PLayoutFinds.k39.K w (row x) cs := by
  obtain ⟨c0, c1, rfl, h0, h1⟩ := h
  exact ⟨c0, c1, rfl, slice_map (d' := PLayoutFinds.k78) (f := cell) rfl cell_K h0, h1⟩
theorem unrow_K {w : World} (x : FRow) (cs : List Value) (h : PLayoutFinds.k39.K w x cs) : PLayoutRows.k39.K w (unrow x) cs := by
  obtain ⟨c0, c1, rfl, h0, h1⟩ := h
  exact ⟨c0, c1, rfl, slice_map (d' := PLayoutRows.k78) (f := uncell) rfl uncell_K h0, h1⟩
theorem unrow_row (x : Row) : unrow (row x) = x := by
  have h : (x.f0.map cell).map uncell = x.f0 := by rw [List.map_map]; exact List.map_id' x.f0
  unfold unrow row
  simp only [h]
end Cv
open Cv
theorem copy_at (l : List FRow) (hl : l.length ≤ 100) (hs : ∀ r ∈ l, r.f0.length ≤ 100 ∧ r.f1.length ≤ 100) : ∀ (d i : Nat), i + d = l.length → PLayoutFinds.copyistkit_CopyRows.l0 (d + 1) l (l.take i) (i : Int) = some l
  | 0, i, h => by
    simp only [PLayoutFinds.copyistkit_CopyRows.l0]
    rw [if_neg (by omega), List.take_of_length_le (by omega)]
  | d + 1, i, h => by
    have hi : i < l.length := by omega
    have he : PLayoutFinds.rd_T39 l (i : Int) = l[i] := by simp [PLayoutFinds.rd_T39, hi]
    have hb := hs l[i] (List.getElem_mem hi)
    rw [PLayoutFinds.copyistkit_CopyRows.l0]
    rw [if_pos (by omega), if_pos (by omega)]
    simp only [Option.bind_some, List.length_nil, Nat.zero_add, List.nil_append, he]
    rw [if_pos (by omega), if_pos (by omega), if_pos (by rw [List.length_take]; omega)]
    have hw : wrap64 ((i : Int) + 1) = ((i + 1 : Nat) : Int) := by unfold wrap64; omega
    rw [hw, ← List.take_succ_eq_append_getElem hi]
    exact copy_at l hl hs d (i + 1) (by omega)
theorem copy_any (A : Option Addr) (n c : Nat) (l : List Row) (hn : l.length = n) (hc : n ≤ c) (hl : n ≤ 100) (hs : ∀ r ∈ l, r.f0.length ≤ 100 ∧ r.f1.length ≤ 100) (w : World) (hC : Kd.C PLayoutRows.k39 w A n l) :
    Calls Tryd.prog 19 #[.slice A n c] w fun e w' => ∃ B d, e = .returned (.slice B n d) ∧ n ≤ d ∧ Kd.C PLayoutRows.k39 w' B n l ∧ Below w.heap.size w w' := by
  have hl2 : (l.map Cv.row).length = n := by rw [List.length_map]; exact hn
  have h1 := copy_at (l.map Cv.row) (by omega) (fun r hr => by
    obtain ⟨x, hx, rfl⟩ := List.mem_map.1 hr
    have := hs x hx
    exact ⟨by simp only [Cv.row, List.length_map]; exact this.1, this.2⟩) n 0 (by omega)
  have hC2 : Kd.C PLayoutFinds.k39 w A n (l.map Cv.row) := C_map (d' := PLayoutFinds.k39) (f := Cv.row) rfl row_K hC
  have h2 := PLayoutFinds.copyistkit_CopyRows.calls (n + 1) A c (l.map Cv.row) (l.map Cv.row) w (by rw [hl2]; exact hC2) (by rw [hl2]; exact hc) h1
  rw [hl2] at h2
  refine h2.mono ?_
  rintro e w' ⟨v, rfl, hS, hb⟩
  obtain ⟨B, d, rfl, hd, hCr⟩ := Kd.R_reads (Kd.S_R hS)
  rw [hl2] at hd hCr ⊢
  have hCu := C_map (f := unrow) (d' := PLayoutRows.k39) rfl unrow_K hCr
  rw [List.map_map] at hCu
  have hid : l.map (unrow ∘ Cv.row) = l := by
    conv => rhs; rw [← List.map_id l]
    exact List.map_congr_left (fun x _ => unrow_row x)
  rw [hid] at hCu
  exact ⟨B, d, rfl, hd, hCu, hb⟩
end Go.Proofs.YtppjgofjjcdcdaaDoor

/- copyistlaw35.LayoutFinds: the walk. -/
namespace Go.Proofs.YtppjgofjjcdcdaaDoor
open PLayoutRows
open Go.RowKit Go.Proofs.YtppjgofjjcdcdaaDoorW.PrintWords
theorem blank_C (width : Int) (hw : width ≤ 1000000) (w : World) : Calls Tryd.prog 25 #[.int .i64 width] w (BlankRet w width.toNat) := by
  by_cases h : width < 1
  · refine (blank_no width w h).mono ?_
    rintro e w' ⟨rfl, rfl⟩
    have h0 : width.toNat = 0 := by omega
    rw [h0]
    exact ⟨none, 0, rfl, ⟨rfl, by omega, fun h => absurd h (by omega)⟩, Below.refl _ _⟩
  · obtain ⟨n, rfl⟩ : ∃ n : Nat, width = n := ⟨width.toNat, by omega⟩
    refine (blank_any n w (by omega) (by omega)).mono ?_
    rintro e w' ⟨g, rfl, _, hg, hf⟩
    rw [Int.toNat_natCast]
    have hC := cellB_C hg (by simp [blankP]; omega)
    rw [show (blankP n).length = n by simp [blankP]] at hC
    exact ⟨_, _, rfl, hC, hf.toBelow⟩
structure FnS (l : List Row) (n q : Nat) : Prop where
  le : q ≤ n
  ok : ∀ j, j < q → (rd_T39 l (j : Int)).f0.length ≤ 60 ∧ (rd_T39 l (j : Int)).f1.length ≤ 60
set_option maxRecDepth 100000
set_option maxHeartbeats 8000000 in
theorem finds_walk (A : Option Addr) (n c : Nat) (l : List Row) (hn : l.length = n) (hnc : n ≤ c) (pos row col width : Int) (w : World) (hC : Kd.C k39 w A n l) (hT : Tabs w) :
    Calls Tryd.prog 4 #[.slice A n c, .int .i64 pos, .int .i64 row, .int .i64 col, .int .i64 width] w fun e w' => e = .returned (.bool true) ∧ Below w.heap.size w w' := by
  have hnb : n ≤ 9223372036854775807 := hC.2.1
  have HT := Lib.hid (fun W (h : Below w.heap.size w W) => awake_any W (hT.below h))
  have HC := Lib.hid hC
  have HN := Lib.hid hn
  have HNC := Lib.hid hnc
  clear hC hT hn hnc
  go_enter Tryd.func4, Tryd.ntmps4
  by_cases h1 : 20 < n
  · go_wp2_with (first | (((with_reducible refine wpList_unguard ?_ ?_); (focus rfl))) | (((with_reducible refine wpList_pass ?_ (by kernel_rfl) ?_); (focus rfl))))
    refine (HT.out _ (Below.refl _ _)).mono ?_
    rintro e w1 ⟨rfl, hb⟩
    have HB := Lib.hid hb
    clear hb
    go_wp2_with (first | (((with_reducible refine wpList_unguard ?_ ?_); (focus rfl))) | (((with_reducible refine wpList_pass ?_ (by kernel_rfl) ?_); (focus rfl))))
    go_ret
    exact ⟨rfl, HB.out⟩
  · have h1b : decide (20 < n) = false := by simp; omega
    by_cases h2 : 2000 < width
    · go_wp2_with (first | (((with_reducible refine wpList_unguard ?_ ?_); (focus rfl))) | (((with_reducible refine wpList_pass ?_ (by kernel_rfl) ?_); (focus rfl))))
      refine (HT.out _ (Below.refl _ _)).mono ?_
      rintro e w1 ⟨rfl, hb⟩
      have HB := Lib.hid hb
      clear hb
      go_wp2_with (first | (((with_reducible refine wpList_unguard ?_ ?_); (focus rfl))) | (((with_reducible refine wpList_pass ?_ (by kernel_rfl) ?_); (focus rfl))))
      go_ret
      exact ⟨rfl, HB.out⟩
    · have h2b : decide (2000 < width) = false := by simp; omega
      go_wp2_with (first | (((with_reducible refine wpList_unguard ?_ ?_); (focus rfl))) | (((with_reducible refine wpList_pass ?_ (by kernel_rfl) ?_); (focus rfl))))
      go_loop [11] (fun i => ∃ q : Nat, i = .int .i64 q ∧ FnS l n q) (fun i => n - (intOf i).toNat)
      case atStart => exact ⟨0, rfl, Nat.zero_le _, fun j hj => absurd hj (by omega)⟩
      case round =>
        obtain ⟨q, rfl, hS⟩ := hrel
        have hq := hS.le
        have HS := Lib.hid hS
        clear hS
        by_cases hlt : q < n
        · obtain ⟨ad, A0, c0, A1, c1, rfl, x0, x1, -, -, -, -, g0, -, g1⟩ := at_T39 HC.out (q : Int) (by omega) (by omega)
          obtain ⟨m0, hm0⟩ : ∃ m, (rd_T39 l (q : Int)).f0.length = m := ⟨_, rfl⟩
          obtain ⟨m1, hm1⟩ : ∃ m, (rd_T39 l (q : Int)).f1.length = m := ⟨_, rfl⟩
          rw [hm0, Int.toNat_natCast] at x0
          rw [hm1, Int.toNat_natCast] at x1
          have HM0 := Lib.hid hm0
          have HM1 := Lib.hid hm1
          have hq0 : (0 : Int) ≤ (q : Int) := by omega
          have hq1 : (q : Int) < (n : Int) := by omega
          clear g0 g1 hm0 hm1
          by_cases h3 : 60 < m1
          · go_wp2_with (first | (((with_reducible refine wpList_unguard ?_ ?_); (focus rfl))) | (((with_reducible refine wpList_pass ?_ (by kernel_rfl) ?_); (focus rfl))))
            refine (HT.out _ (Below.refl _ _)).mono ?_
            rintro e w1 ⟨rfl, hb⟩
            have HB := Lib.hid hb
            clear hb
            go_wp2_with (first | (((with_reducible refine wpList_unguard ?_ ?_); (focus rfl))) | (((with_reducible refine wpList_pass ?_ (by kernel_rfl) ?_); (focus rfl))))
            go_ret
            exact ⟨rfl, HB.out⟩
          · have h3b : decide (60 < m1) = false := by simp; omega
            by_cases h4 : 60 < m0
            · go_wp2_with (first | (((with_reducible refine wpList_unguard ?_ ?_); (focus rfl))) | (((with_reducible refine wpList_pass ?_ (by kernel_rfl) ?_); (focus rfl))))
              refine (HT.out _ (Below.refl _ _)).mono ?_
              rintro e w1 ⟨rfl, hb⟩
              have HB := Lib.hid hb
              clear hb
              go_wp2_with (first | (((with_reducible refine wpList_unguard ?_ ?_); (focus rfl))) | (((with_reducible refine wpList_pass ?_ (by kernel_rfl) ?_); (focus rfl))))
              go_ret
              exact ⟨rfl, HB.out⟩
            · have h4b : decide (60 < m0) = false := by simp; omega
              go_wp2_with (first | (((with_reducible refine wpList_unguard ?_ ?_); (focus rfl))) | (((with_reducible refine wpList_pass ?_ (by kernel_rfl) ?_); (focus rfl))))
              go_round
              case rel =>
                refine ⟨q + 1, by go_num, by omega, fun j hj => ?_⟩
                rcases Nat.lt_or_ge j q with h | h
                · exact HS.out.ok j h
                · rw [show j = q by omega, HM0.out, HM1.out]; omega
              case measure => simp [intOf]; omega
        · have hqn : n = q := by omega
          have hall : ∀ r ∈ l, r.f0.length ≤ 100 ∧ r.f1.length ≤ 100 := by
            intro r hr
            obtain ⟨j, hj, rfl⟩ := List.getElem_of_mem hr
            have := HS.out.ok j (by have := HN.out; omega)
            simp [rd_T39, hj] at this
            omega
          have HALL := Lib.hid hall
          clear hall HS
          subst hqn
          go_wp2_with (first | (((with_reducible refine wpList_unguard ?_ ?_); (focus rfl))) | (((with_reducible refine wpList_pass ?_ (by kernel_rfl) ?_); (focus rfl))))
          refine (copy_any A n c l HN.out HNC.out (by omega) HALL.out _ HC.out).mono ?_
          rintro e w1 ⟨B, d, rfl, -, hB, hb⟩
          have HB1 := Lib.hid hb
          have HCB := Lib.hid hB
          have HC1 := Lib.hid (Kd.C_below HC.out hb)
          clear hb hB
          obtain ⟨⟨wi, wj, wf⟩, hw⟩ : ∃ x, whereP l pos = x := ⟨_, rfl⟩
          obtain ⟨⟨ai, af⟩, ha⟩ : ∃ x, atP l row col = x := ⟨_, rfl⟩
          go_wp2_with (first | (((with_reducible refine wpList_unguard ?_ ?_); (focus rfl))) | (((with_reducible refine wpList_pass ?_ (by kernel_rfl) ?_); (focus rfl))))
          have hk := where_any B d l n HN.out pos w1 HCB.out
          rw [hw] at hk
          refine hk.mono ?_
          rintro e w2 ⟨rfl, hb⟩
          have HB2 := Lib.hid (below_on HB1.out hb)
          have HCB2 := Lib.hid (Kd.C_below HCB.out hb)
          have HC2 := Lib.hid (Kd.C_below HC1.out hb)
          clear hb hk HCB HC1 HB1
          go_wp2_with (first | (((with_reducible refine wpList_unguard ?_ ?_); (focus rfl))) | (((with_reducible refine wpList_pass ?_ (by kernel_rfl) ?_); (focus rfl))))
          have hk := refWhere_any A c l n HN.out pos w2 HC2.out
          rw [hw] at hk
          refine hk.mono ?_
          rintro e w' ⟨rfl, rfl⟩
          clear hk hw
          go_wp2_with (first | (((with_reducible refine wpList_unguard ?_ ?_); (focus rfl))) | (((with_reducible refine wpList_pass ?_ (by kernel_rfl) ?_); (focus rfl))))
          have hk := at_any B d l n HN.out row col w2 HCB2.out
          rw [ha] at hk
          refine (callsIn_wide.1 hk).mono ?_
          rintro e w3 ⟨rfl, hf⟩
          have hb := hf.toBelow
          have HB3 := Lib.hid (below_on HB2.out hb)
          have HCB3 := Lib.hid (Kd.C_below HCB2.out hb)
          have HC3 := Lib.hid (Kd.C_below HC2.out hb)
          clear hb hk HCB2 HC2 HB2 hf
          go_wp2_with (first | (((with_reducible refine wpList_unguard ?_ ?_); (focus rfl))) | (((with_reducible refine wpList_pass ?_ (by kernel_rfl) ?_); (focus rfl))))
          have hk := refAt_any A c l n HN.out row col w3 HC3.out
          rw [ha] at hk
          refine hk.mono ?_
          rintro e w' ⟨rfl, rfl⟩
          clear hk ha
          have e1 : (wi == wi) = true := by simp
          have e2 : (wj == wj) = true := by simp
          have e3 : (wf == wf) = true := by simp
          have e4 : (ai == ai) = true := by simp
          have e5 : (af == af) = true := by simp
          go_wp2_with (first | (((with_reducible refine wpList_unguard ?_ ?_); (focus rfl))) | (((with_reducible refine wpList_pass ?_ (by kernel_rfl) ?_); (focus rfl))))
          refine (blank_C width (by omega) w3).mono ?_
          rintro e w4 ⟨C4, d4, rfl, hC4, hb⟩
          have HB4 := Lib.hid (below_on HB3.out hb)
          have HCB4 := Lib.hid (Kd.C_below HCB3.out hb)
          have HC4 := Lib.hid (Kd.C_below HC3.out hb)
          have HD4 := Lib.hid hC4
          clear hb hC4 HCB3 HC3 HB3
          go_wp2_with (first | (((with_reducible refine wpList_unguard ?_ ?_); (focus rfl))) | (((with_reducible refine wpList_pass ?_ (by kernel_rfl) ?_); (focus rfl))))
          refine (refBlank_any width (by omega) w4).mono ?_
          rintro e w5 ⟨C5, d5, rfl, hC5, hb⟩
          have HB5 := Lib.hid (below_on HB4.out hb)
          have HCB5 := Lib.hid (Kd.C_below HCB4.out hb)
          have HC5 := Lib.hid (Kd.C_below HC4.out hb)
          have HD5 := Lib.hid (Kd.C_below HD4.out hb)
          have HE5 := Lib.hid hC5
          clear hb hC5 HCB4 HC4 HB4 HD4
          go_wp2_with (first | (((with_reducible refine wpList_unguard ?_ ?_); (focus rfl))) | (((with_reducible refine wpList_pass ?_ (by kernel_rfl) ?_); (focus rfl))))
          refine (cells_same C4 d4 C5 d5 (blankP width.toNat) width.toNat w5 HD5.out HE5.out).mono ?_
          rintro e w6 ⟨rfl, hd⟩
          have hb := hd.below
          have HB6 := Lib.hid (below_on HB5.out hb)
          have HCB6 := Lib.hid (Kd.C_below HCB5.out hb)
          have HC6 := Lib.hid (Kd.C_below HC5.out hb)
          clear hb hd HCB5 HC5 HB5 HD5 HE5
          go_wp2_with (first | (((with_reducible refine wpList_unguard ?_ ?_); (focus rfl))) | (((with_reducible refine wpList_pass ?_ (by kernel_rfl) ?_); (focus rfl))))
          refine (rows_same B d A c l n w6 HCB6.out HC6.out).mono ?_
          rintro e w7 ⟨rfl, hd⟩
          have HB7 := Lib.hid (below_on HB6.out hd.below)
          clear hd HB6
          go_wp2_with (first | (((with_reducible refine wpList_unguard ?_ ?_); (focus rfl))) | (((with_reducible refine wpList_pass ?_ (by kernel_rfl) ?_); (focus rfl))))
          refine (HT.out _ HB7.out).mono ?_
          rintro e w8 ⟨rfl, hb⟩
          have HB8 := Lib.hid (below_on HB7.out hb)
          clear hb
          go_wp2_with (first | (((with_reducible refine wpList_unguard ?_ ?_); (focus rfl))) | (((with_reducible refine wpList_pass ?_ (by kernel_rfl) ?_); (focus rfl))))
          go_ret
          exact ⟨rfl, HB8.out⟩
end Go.Proofs.YtppjgofjjcdcdaaDoor

/- LayoutFinds holds: whatever the input, the call returns true and the arguments read as they did (the two tables of unicode/utf8 as the text lays them); tied to the program's text. -/
namespace Go.Proofs.YtppjgofjjcdcdaaDoor.layoutFinds
open Go.ChangeShapes Go.WideShapes Go.ChangeAt Go.RowKit Go.Proofs.YtppjgofjjcdcdaaDoor Go.Proofs.YtppjgofjjcdcdaaDoor.PLayoutRows Go.Proofs.YtppjgofjjcdcdaaDoorW.PrintWords
set_option maxRecDepth 100000 in
theorem lifted (os : Os) (started : os.Started) (H : Type) (enc : TypeId × Value → H) :
    ReturnsInHanded {} Tryd.checked os 4 .any (fun w args => (Rows.layoutFindsSpec.pre enc Tryd.prog Tryd.f4 Rows.layoutFindsRow.domain false w args ∧ laidMetH Tryd.prog laid2 w) ∧ sizedMet enc Tryd.prog Tryd.f4 (OpenSpec.ofChange Rows.layoutFindsSpec) false w args)
      (Rows.layoutFindsSpec.post enc Tryd.prog Tryd.f4 false true false false) := by
  refine returnsInHanded_of_change_and (C := Tryd.checked) (X := fun w _ => laidMetH Tryd.prog laid2 w) (fun _ _ _ hh h => h.of_heap hh) own started (by kernel_rfl) Tryd.func4
    (ChangeSpec.witness_shaped (enc := enc) (C := Tryd.checked) (os := os) (X := fun w _ => laidMetH Tryd.prog laid2 w) false (World.laidAll Tryd.prog os laid2) #[.slice none 0 0, .int .i64 0, .int .i64 0, .int .i64 0, .int .i64 0] 8 (World.laidAll_os _ _ _)
      (World.shaped_of_ZipB (by kernel_rfl) (by kernel_rfl)) (by kernel_rfl) (by kernel_rfl) (by kernel_rfl)
      (by rw [MakeChecks.laidMetH_plain _ _ _ (by kernel_rfl)]; exact laidMet_laidAll _ (by kernel_rfl) (by kernel_rfl))) ?_
  intro W base args ds gs before hval0 hW _ _ hL _
  have hval : ∀ (j : Nat) t v, Tryd.f4.params[j]? = some t → args[j]? = some v → Value.okWide Tryd.prog W .any base t v := hval0
  have hW' := hW
  obtain ⟨p, q, hA0, hV, rfl, hfz, hnd⟩ := hW
  have hA : DataW.TrodAll enc Tryd.prog W 0 (fun _ => true) true Tryd.f4.params.toList args.toList ds p := hA0
  rw [Tryd.params4] at hA hval
  obtain ⟨v0, vs0, d0, ds0, p0, q0, hargs, rfl, rfl, h0, r0⟩ := trodAll_cons hA
  obtain ⟨v1, vs1, d1, ds1, p1, q1, rfl, rfl, rfl, h1, r1⟩ := trodAll_cons r0
  obtain ⟨v2, vs2, d2, ds2, p2, q2, rfl, rfl, rfl, h2, r2⟩ := trodAll_cons r1
  obtain ⟨v3, vs3, d3, ds3, p3, q3, rfl, rfl, rfl, h3, r3⟩ := trodAll_cons r2
  obtain ⟨v4, vs4, d4, ds4, p4, q4, rfl, rfl, rfl, h4, r4⟩ := trodAll_cons r3
  obtain ⟨rfl, rfl, rfl⟩ := trodAll_nil r4
  obtain rfl : args = #[v0, v1, v2, v3, v4] := by cases args; simp_all
  obtain ⟨rfl, rfl⟩ := trodVars_none hV
  obtain ⟨a0, n0, c0, rfl⟩ := okWide_slice Tryd.underlying27 (hval 0 27 v0 rfl rfl)
  have k0 := h0
  have lt0 : ∀ x ∈ p0, x.block < W.heap.size := by obtain ⟨m, hm⟩ := k0; exact DataW.trod_lt m _ _ _ hm
  obtain ⟨l0, hn0, hc0, hC0⟩ := open_arg Tryd.underlying27 cellsOf39 opens_row h0
  obtain ⟨a1, rfl, rfl, rfl, w1⟩ := open_int Tryd.underlying3 (hval 1 3 v1 rfl rfl) h1
  obtain ⟨a2, rfl, rfl, rfl, w2⟩ := open_int Tryd.underlying3 (hval 2 3 v2 rfl rfl) h2
  obtain ⟨a3, rfl, rfl, rfl, w3⟩ := open_int Tryd.underlying3 (hval 3 3 v3 rfl rfl) h3
  obtain ⟨a4, rfl, rfl, rfl, w4⟩ := open_int Tryd.underlying3 (hval 4 3 v4 rfl rfl) h4
  clear hA0 hval0 hval
  refine (finds_walk a0 n0 c0 l0 hn0 hc0 a1 a2 a3 a4 W hC0 (tabs_of_laid hL)).mono fun e W' ⟨he, bel⟩ => ?_
  subst he
  exact ⟨_, rfl, _, _, _, [], _, [], hW', trodAll_mk1 (shut_bool Tryd.underlying4 _), (trodAll_cons_mk (Below.trod laidOut (by kernel_rfl) (of_decide_eq_true (by kernel_rfl)) k0 bel lt0) (trodAll_cons_mk (shut_int Tryd.underlying3 w1) (trodAll_cons_mk (shut_int Tryd.underlying3 w2) (trodAll_cons_mk (shut_int Tryd.underlying3 w3) (trodAll_cons_mk (shut_int Tryd.underlying3 w4) trodAll_mk0))))), rfl, bel.frame _, fun h => by cases h⟩
theorem over : Rows.layoutFindsRow.holds Tryd.pinned (OpenSpec.ofChange Rows.layoutFindsSpec) :=
  OpenClaim.holds_of_wide 4 Tryd.f4 rfl rfl rfl rfl rfl rfl rfl ⟨rfl, rfl, rfl, rfl, rfl⟩ rfl rfl rfl rfl rfl (by kernel_rfl) Tryd.func4 (by kernel_rfl)
    (of_decide_eq_true (by kernel_rfl)) (by unfold Func.isWrapper; first | (rw [if_pos (by decide +kernel)]; kernel_rfl) | (rw [if_neg (by decide +kernel)]; exact ⟨rfl, rfl⟩))
    (fun os started H enc _ => lifted os started H enc)
theorem card : Rows.LayoutFindsCardSaid :=
  Claim7.holds_tied_plain_at .later [] [.data, .pinned] true Rows.layoutFindsCard.stood.harness false over (fun _ h => by cases h) (by kernel_rfl) (fun _ h => by cases h) layoutFinds_row_tie rfl ⟨rfl, rfl⟩ (by kernel_rfl) rfl
    (fun f fn hf hfn => by
      obtain rfl : f = 4 := Option.some.inj ((show Tryd.prog.funcNamed "copyist/copyistlaw35.LayoutFinds" = some 4 by kernel_rfl).symm.trans hf) |>.symm
      obtain rfl : fn = Tryd.f4 := (Option.some.inj (Tryd.func4.symm.trans hfn)).symm
      exact ⟨by kernel_rfl, fun j t ht => by
        rw [Tryd.params4] at ht
        have hm : t ∈ [27, 3] := by have := Array.mem_of_getElem? ht; simp at this ⊢; omega
        have hall : ([27, 3].all fun u => !Tryd.prog.wantsStandIn u) = true := by kernel_rfl
        exact (show Tryd.prog.wantsStandIn t = false by simpa using List.all_eq_true.1 hall t hm)⟩)
    (by kernel_rfl)
#print axioms card
end Go.Proofs.YtppjgofjjcdcdaaDoor.layoutFinds
namespace Go.Proofs.YtppjgofjjcdcdaaDoor
/-- The card, under a short name, for the claim. -/
theorem layoutFinds_holds : Rows.LayoutFindsCardSaid := layoutFinds.card
end Go.Proofs.YtppjgofjjcdcdaaDoor
