/- LayoutFits holds: whatever the input, the call returns true and the arguments read as they did (the two tables of unicode/utf8 as the text lays them); tied to the program's text. -/
import Derived.Test.YtppjgofjjcdcdaaDoorJF
import Derived.Test.YtppjgofjjcdcdaaDoorJG
import Derived.Test.YtppjgofjjcdcdaaDoorRows
import Derived.Test.YtppjgofjjcdcdaaDoorTie
import Derived.Test.YtppjgofjjcdcdaaDoorCards
import Derived.ProofKit
import Derived.OpenShut
import Derived.LaidMore
import Derived.Lay
import Derived.SevenTiedAt
import Derived.Carry
import Derived.ChangeOld
import Derived.SizedLaws
set_option linter.unusedVariables false
set_option linter.unusedSimpArgs false
/- copyistlaw35.LayoutFits: the walk. -/
namespace Go.Proofs.YtppjgofjjcdcdaaDoor
open PLayoutRows
open Go.RowKit Go.Proofs.YtppjgofjjcdcdaaDoorW.PrintWords
theorem anyC_take (rs : List Row) (k : Nat) (h : k < rs.length) : anyC (rs.take (k + 1)) = (anyC (rs.take k) || (rd_T39 rs (k : Int)).f4) := by
  unfold anyC
  rw [List.take_succ_eq_append_getElem h, List.any_append]
  simp [rd_T39, h]
set_option maxRecDepth 100000
set_option maxHeartbeats 8000000 in
theorem fits_walk (A : Option Addr) (n c : Nat) (l : List Part) (hn : l.length = n) (hnc : n ≤ c) (from_ to_ width tab most : Int) (w : World) (hC : Kd.C k55 w A n l) (hT : Tabs w) :
    Calls Tryd.prog 7 #[.slice A n c, .int .i64 from_, .int .i64 to_, .int .i64 width, .int .i64 tab, .int .i64 most] w fun e w' => e = .returned (.bool true) ∧ Below w.heap.size w w' := by
  have HT := Lib.hid (fun W (h : Below w.heap.size w W) => hT.below h)
  have HC := Lib.hid (fun W (h : Below w.heap.size w W) => Kd.C_below hC h)
  have HN := Lib.hid hn
  have HNC := Lib.hid hnc
  clear hC hT hn hnc
  go_enter Tryd.func7, Tryd.ntmps7
  go_wp2_with fail
  refine (known_any _ (HT.out _ (Below.refl _ _))).mono ?_
  rintro e w1 ⟨rfl, hb⟩
  have HB1 := Lib.hid hb
  clear hb
  go_wp2_with fail
  refine (long_any A n c l HN.out HNC.out _ (HC.out _ HB1.out)).mono ?_
  rintro e w2 ⟨b, rfl, hlong, hd⟩
  have HB2 := Lib.hid (below_on HB1.out hd.below)
  have HL := Lib.hid hlong
  clear hd hlong HB1
  cases b with
  | true =>
    go_wp2_with (first | (((with_reducible refine wpList_unguard ?_ ?_); (focus rfl))) | (((with_reducible refine wpList_pass ?_ (by kernel_rfl) ?_); (focus rfl))))
    go_ret
    exact ⟨rfl, HB2.out⟩
  | false =>
    obtain ⟨hl30, hl200⟩ := HL.out rfl
    have HL30 := Lib.hid hl30
    have HS := Lib.hid (show ∀ p ∈ l, p.f3.size ≤ 1000000 from fun p hp => by have := hl200 p hp; omega)
    clear hl30 hl200 HL
    go_wp2_with (first | (((with_reducible refine wpList_unguard ?_ ?_); (focus rfl))) | (((with_reducible refine wpList_pass ?_ (by kernel_rfl) ?_); (focus rfl))))
    refine (vast_any A n c l HN.out HNC.out (by have := HL30.out; omega) width tab 200000 _ (HC.out _ HB2.out)).mono ?_
    rintro e w3 ⟨b3, rfl, hd⟩
    have HB3 := Lib.hid (below_on HB2.out hd.below)
    clear hd HB2
    cases b3 with
    | true =>
      go_wp2_with (first | (((with_reducible refine wpList_unguard ?_ ?_); (focus rfl))) | (((with_reducible refine wpList_pass ?_ (by kernel_rfl) ?_); (focus rfl))))
      go_ret
      exact ⟨rfl, HB3.out⟩
    | false =>
      obtain ⟨⟨ra, ea⟩, hra⟩ : ∃ x, rowsP l from_ to_ width tab true 10000 = x := ⟨_, rfl⟩
      obtain ⟨⟨rb, eb⟩, hrb⟩ : ∃ x, rowsP l from_ to_ width tab false 10000 = x := ⟨_, rfl⟩
      obtain ⟨⟨rc, ec⟩, hrc⟩ : ∃ x, rowsP l from_ to_ width tab true most = x := ⟨_, rfl⟩
      have heab : ea = eb := by
        have h1 := rowsP_err l from_ to_ width tab true 10000
        have h2 := rowsP_err l from_ to_ width tab false 10000
        rw [hra] at h1
        rw [hrb] at h2
        exact h1.trans h2.symm
      subst heab
      have HRA := Lib.hid hra
      have HRB := Lib.hid hrb
      have HRC := Lib.hid hrc
      clear hra hrb hrc
      go_wp2_with (first | (((with_reducible refine wpList_unguard ?_ ?_); (focus rfl))) | (((with_reducible refine wpList_pass ?_ (by kernel_rfl) ?_); (focus rfl))))
      refine (rows_C A n c l HN.out from_ to_ width tab true 10000 _ (HC.out _ HB3.out) (HT.out _ HB3.out) HS.out (by have := HL30.out; omega) ra ea HRA.out).mono ?_
      rintro e w4 ⟨A4, c4, rfl, hc4, hC4, hb⟩
      have HB4 := Lib.hid (below_on HB3.out hb)
      have HC4 := Lib.hid hC4
      have HL4 := Lib.hid hc4
      clear hb hC4 HB3 hc4
      go_wp2_with (first | (((with_reducible refine wpList_unguard ?_ ?_); (focus rfl))) | (((with_reducible refine wpList_pass ?_ (by kernel_rfl) ?_); (focus rfl))))
      refine (rows_C A n c l HN.out from_ to_ width tab false 10000 _ (HC.out _ HB4.out) (HT.out _ HB4.out) HS.out (by have := HL30.out; omega) rb ea HRB.out).mono ?_
      rintro e w5 ⟨A5, c5, rfl, hc5, hC5, hb⟩
      have HB5 := Lib.hid (below_on HB4.out hb)
      have HC4b := Lib.hid (Kd.C_below HC4.out hb)
      have HC5 := Lib.hid hC5
      clear hb hC5 HB4 hc5 HC4
      go_wp2_with (first | (((with_reducible refine wpList_unguard ?_ ?_); (focus rfl))) | (((with_reducible refine wpList_pass ?_ (by kernel_rfl) ?_); (focus rfl))))
      refine (rows_C A n c l HN.out from_ to_ width tab true most _ (HC.out _ HB5.out) (HT.out _ HB5.out) HS.out (by have := HL30.out; omega) rc ec HRC.out).mono ?_
      rintro e w6 ⟨A6, c6, rfl, hc6, hC6, hb⟩
      have HB6 := Lib.hid (below_on HB5.out hb)
      have HCa := Lib.hid (Kd.C_below HC4b.out hb)
      have HCb := Lib.hid (Kd.C_below HC5.out hb)
      have HCc := Lib.hid hC6
      clear hb hC6 HB5 hc6 HC4b HC5
      by_cases he : ea = 0
      · subst he
        obtain ⟨l1, l2, l3, l4⟩ := fits_law HRA.out HRB.out HRC.out
        have L1 := Lib.hid l1
        have L2 := Lib.hid l2
        have L3 := Lib.hid l3
        obtain ⟨na, hna⟩ : ∃ na, ra.length = na := ⟨_, rfl⟩
        rw [hna] at l4 HCa HL4 ⊢
        have HNA := Lib.hid hna
        clear l1 l2 l3 hna HRA HRB HRC
        by_cases hm : 0 ≤ most ∧ most ≤ 10000
        · obtain ⟨rfl, hrc⟩ := L2.out hm
          obtain ⟨m, rfl⟩ : ∃ m : Nat, most = m := ⟨most.toNat, by omega⟩
          have hm2 : m ≤ 10000 := by omega
          have hm0 : decide ((m : Int) < 0) = false := by simp
          have hm3 : decide ((m : Int) ≤ 10000) = true := by simp; omega
          have hrc2 : rc = ra.take m := by rw [hrc]; simp
          have HRC2 := Lib.hid hrc2
          obtain ⟨q, hq⟩ : ∃ q : Nat, q = min na m := ⟨_, rfl⟩
          have hmn : min (na : Int) (m : Int) = (q : Int) := by omega
          have hq0 : (0 : Int) ≤ (q : Int) := by omega
          have hqk : q ≤ na := by omega
          have hq1 : (q : Int) ≤ (c4 : Int) := by have := HL4.out; omega
          have hrl : rc.length = q := by rw [hrc2, List.length_take, HNA.out]; omega
          have hrq : ra.take q = rc := by
            rw [hrc2]
            rcases Nat.le_total m na with h | h
            · rw [show q = m by omega]
            · rw [show q = na by omega, List.take_of_length_le (by have := HNA.out; omega), List.take_of_length_le (by have := HNA.out; omega)]
          rw [hrl] at HCc ⊢
          have HRQ := Lib.hid hrq
          have HQK := Lib.hid hqk
          clear hm L2 L3 hrc hrc2 hrl hrq hq hqk
          go_wp2_with (first | (((with_reducible refine wpList_unguard ?_ ?_); (focus rfl))) | (((with_reducible refine wpList_pass ?_ (by kernel_rfl) ?_); (focus rfl))))
          go_loop [20, 21] (fun v i => ∃ k : Nat, v = .bool (anyC (ra.take k)) ∧ i = .int .i64 k ∧ k ≤ na) (fun _ i => na - (intOf i).toNat)
          case atStart => exact ⟨0, by simp [anyC], rfl, Nat.zero_le _⟩
          case round =>
            obtain ⟨k, rfl, rfl, hk⟩ := hrel
            by_cases hlt : k < na
            · obtain ⟨ad, B0, d0, B1, d1, rfl, -, -, -, -, x4, -, -, -, -⟩ := at_T39 HCa.out (k : Int) (by omega) (by omega)
              rw [Int.toNat_natCast] at x4
              have hst := anyC_take ra k (by have := HNA.out; omega)
              obtain ⟨y, hy⟩ : ∃ y, (rd_T39 ra (k : Int)).f4 = y := ⟨_, rfl⟩
              rw [hy] at x4 hst
              have HST := Lib.hid hst
              clear hst hy
              obtain ⟨cv, hcv⟩ : ∃ cv, anyC (ra.take k) = cv := ⟨_, rfl⟩
              rw [hcv] at HST ⊢
              have hk0 : (0 : Int) ≤ (k : Int) := by omega
              have hk1 : (k : Int) < (na : Int) := by omega
              clear hcv
              cases cv with
              | true =>
                go_wp2_with (first | (((with_reducible refine wpList_unguard ?_ ?_); (focus rfl))) | (((with_reducible refine wpList_pass ?_ (by kernel_rfl) ?_); (focus rfl))))
                go_round
                case rel => exact ⟨k + 1, by rw [HST.out]; rfl, by go_num, by omega⟩
                case measure => simp [intOf]; omega
              | false =>
                go_wp2_with (first | (((with_reducible refine wpList_unguard ?_ ?_); (focus rfl))) | (((with_reducible refine wpList_pass ?_ (by kernel_rfl) ?_); (focus rfl))))
                go_round
                case rel => exact ⟨k + 1, by rw [HST.out]; simp, by go_num, by omega⟩
                case measure => simp [intOf]; omega
            · have hkn : k = na := by omega
              subst hkn
              rw [List.take_of_length_le (by have := HNA.out; omega)]
              obtain ⟨cc, hcc⟩ : ∃ cc, anyC ra = cc := ⟨_, rfl⟩
              rw [hcc] at L1 ⊢
              clear hcc
              cases cc with
              | true =>
                go_wp2_with (first | (((with_reducible refine wpList_unguard ?_ ?_); (focus rfl))) | (((with_reducible refine wpList_pass ?_ (by kernel_rfl) ?_); (focus rfl))))
                have hcq : Kd.C k39 w6 A4 q rc := by have := C_take HCa.out HQK.out; rw [HRQ.out] at this; exact this
                have hsame := rows_same A6 c6 A4 c4 rc q w6 HCc.out hcq
                refine hsame.mono ?_
                rintro e w7 ⟨rfl, hd⟩
                have HB7 := Lib.hid (below_on HB6.out hd.below)
                clear hd hsame hcq HCa HCb HCc HRQ HQK HL4 HB6
                go_wp2_with (first | (((with_reducible refine wpList_unguard ?_ ?_); (focus rfl))) | (((with_reducible refine wpList_pass ?_ (by kernel_rfl) ?_); (focus rfl))))
                go_ret
                exact ⟨rfl, HB7.out⟩
              | false =>
                have hab := L1.out rfl
                have hbl : rb.length = k := by rw [← hab]; exact HNA.out
                rw [hbl] at HCb ⊢
                rw [← hab] at HCb
                clear hbl hab
                go_wp2_with (first | (((with_reducible refine wpList_unguard ?_ ?_); (focus rfl))) | (((with_reducible refine wpList_pass ?_ (by kernel_rfl) ?_); (focus rfl))))
                have hsame := rows_same A4 c4 A5 c5 ra k w6 HCa.out HCb.out
                refine hsame.mono ?_
                rintro e w7 ⟨rfl, hd⟩
                have HB7 := Lib.hid (below_on HB6.out hd.below)
                have HD := Lib.hid hd
                clear hd hsame HCb
                go_wp2_with (first | (((with_reducible refine wpList_unguard ?_ ?_); (focus rfl))) | (((with_reducible refine wpList_pass ?_ (by kernel_rfl) ?_); (focus rfl))))
                have hcq : Kd.C k39 w7 A4 q rc := by have := C_take HCa.out HQK.out; rw [HRQ.out] at this; exact C_drawn this HD.out
                have hsame := rows_same A6 c6 A4 c4 rc q w7 (C_drawn HCc.out HD.out) hcq
                refine hsame.mono ?_
                rintro e w8 ⟨rfl, hd⟩
                have HB8 := Lib.hid (below_on HB7.out hd.below)
                clear hd hsame hcq HCa HCc HRQ HQK HL4 HB6 HB7 HD
                go_wp2_with (first | (((with_reducible refine wpList_unguard ?_ ?_); (focus rfl))) | (((with_reducible refine wpList_pass ?_ (by kernel_rfl) ?_); (focus rfl))))
                go_ret
                exact ⟨rfl, HB8.out⟩
        · have hec := L3.out hm
          subst hec
          have HM := Lib.hid hm
          clear hm L2 L3
          go_wp2_with (first | (((with_reducible refine wpList_unguard ?_ ?_); (focus rfl))) | (((with_reducible refine wpList_pass ?_ (by kernel_rfl) ?_); (focus rfl))))
          go_loop [20, 21] (fun v i => ∃ k : Nat, v = .bool (anyC (ra.take k)) ∧ i = .int .i64 k ∧ k ≤ na) (fun _ i => na - (intOf i).toNat)
          case atStart => exact ⟨0, by simp [anyC], rfl, Nat.zero_le _⟩
          case round =>
            obtain ⟨k, rfl, rfl, hk⟩ := hrel
            by_cases hlt : k < na
            · obtain ⟨ad, B0, d0, B1, d1, rfl, -, -, -, -, x4, -, -, -, -⟩ := at_T39 HCa.out (k : Int) (by omega) (by omega)
              rw [Int.toNat_natCast] at x4
              have hst := anyC_take ra k (by have := HNA.out; omega)
              obtain ⟨y, hy⟩ : ∃ y, (rd_T39 ra (k : Int)).f4 = y := ⟨_, rfl⟩
              rw [hy] at x4 hst
              have HST := Lib.hid hst
              clear hst hy
              obtain ⟨cv, hcv⟩ : ∃ cv, anyC (ra.take k) = cv := ⟨_, rfl⟩
              rw [hcv] at HST ⊢
              have hk0 : (0 : Int) ≤ (k : Int) := by omega
              have hk1 : (k : Int) < (na : Int) := by omega
              clear hcv
              cases cv with
              | true =>
                go_wp2_with (first | (((with_reducible refine wpList_unguard ?_ ?_); (focus rfl))) | (((with_reducible refine wpList_pass ?_ (by kernel_rfl) ?_); (focus rfl))))
                go_round
                case rel => exact ⟨k + 1, by rw [HST.out]; rfl, by go_num, by omega⟩
                case measure => simp [intOf]; omega
              | false =>
                go_wp2_with (first | (((with_reducible refine wpList_unguard ?_ ?_); (focus rfl))) | (((with_reducible refine wpList_pass ?_ (by kernel_rfl) ?_); (focus rfl))))
                go_round
                case rel => exact ⟨k + 1, by rw [HST.out]; simp, by go_num, by omega⟩
                case measure => simp [intOf]; omega
            · have hkn : k = na := by omega
              subst hkn
              rw [List.take_of_length_le (by have := HNA.out; omega)]
              obtain ⟨cc, hcc⟩ : ∃ cc, anyC ra = cc := ⟨_, rfl⟩
              rw [hcc] at L1 ⊢
              clear hcc
              cases cc with
              | true =>
                by_cases hm1 : most < 0
                · have hm2 : decide (0 ≤ most) = false := by simp; omega
                  go_wp2_with (first | (((with_reducible refine wpList_unguard ?_ ?_); (focus rfl))) | (((with_reducible refine wpList_pass ?_ (by kernel_rfl) ?_); (focus rfl))))
                  go_ret
                  exact ⟨rfl, HB6.out⟩
                · have hm2 : decide (0 ≤ most) = true := by simp; omega
                  have hm3 : decide (most ≤ 10000) = false := by have := HM.out; simp; omega
                  go_wp2_with (first | (((with_reducible refine wpList_unguard ?_ ?_); (focus rfl))) | (((with_reducible refine wpList_pass ?_ (by kernel_rfl) ?_); (focus rfl))))
                  go_ret
                  exact ⟨rfl, HB6.out⟩
              | false =>
                have hab := L1.out rfl
                have hbl : rb.length = k := by rw [← hab]; exact HNA.out
                rw [hbl] at HCb ⊢
                rw [← hab] at HCb
                clear hbl hab
                go_wp2_with (first | (((with_reducible refine wpList_unguard ?_ ?_); (focus rfl))) | (((with_reducible refine wpList_pass ?_ (by kernel_rfl) ?_); (focus rfl))))
                have hsame := rows_same A4 c4 A5 c5 ra k w6 HCa.out HCb.out
                refine hsame.mono ?_
                rintro e w7 ⟨rfl, hd⟩
                have HB7 := Lib.hid (below_on HB6.out hd.below)
                clear hd hsame HCb HCa HCc
                by_cases hm1 : most < 0
                · have hm2 : decide (0 ≤ most) = false := by simp; omega
                  go_wp2_with (first | (((with_reducible refine wpList_unguard ?_ ?_); (focus rfl))) | (((with_reducible refine wpList_pass ?_ (by kernel_rfl) ?_); (focus rfl))))
                  go_ret
                  exact ⟨rfl, HB7.out⟩
                · have hm2 : decide (0 ≤ most) = true := by simp; omega
                  have hm3 : decide (most ≤ 10000) = false := by have := HM.out; simp; omega
                  go_wp2_with (first | (((with_reducible refine wpList_unguard ?_ ?_); (focus rfl))) | (((with_reducible refine wpList_pass ?_ (by kernel_rfl) ?_); (focus rfl))))
                  go_ret
                  exact ⟨rfl, HB7.out⟩
      · have he2 : (ea != 0) = true := by simp [he]
        have hra0 : ra = [] := by
          have := HRA.out
          unfold rowsP at this
          split at this
          · cases this; rfl
          · split at this
            · cases this; rfl
            · cases this; exact absurd rfl he
        have hrb0 : rb = [] := by
          have := HRB.out
          unfold rowsP at this
          split at this
          · cases this; rfl
          · split at this
            · cases this; rfl
            · cases this; exact absurd rfl he
        subst hra0 hrb0
        have e0 : (ea != ea) = false := by simp
        clear HRA HRB HRC he
        go_wp2_with (first | (((with_reducible refine wpList_unguard ?_ ?_); (focus rfl))) | (((with_reducible refine wpList_pass ?_ (by kernel_rfl) ?_); (focus rfl))))
        go_ret
        exact ⟨rfl, HB6.out⟩
end Go.Proofs.YtppjgofjjcdcdaaDoor

/- LayoutFits holds: whatever the input, the call returns true and the arguments read as they did (the two tables of unicode/utf8 as the text lays them); tied to the program's text. -/
namespace Go.Proofs.YtppjgofjjcdcdaaDoor.layoutFits
open Go.ChangeShapes Go.WideShapes Go.ChangeAt Go.RowKit Go.Proofs.YtppjgofjjcdcdaaDoor Go.Proofs.YtppjgofjjcdcdaaDoor.PLayoutRows Go.Proofs.YtppjgofjjcdcdaaDoorW.PrintWords
set_option maxRecDepth 100000 in
theorem lifted (os : Os) (started : os.Started) (H : Type) (enc : TypeId × Value → H) :
    ReturnsInHanded {} Tryd.checked os 7 .any (fun w args => (Rows.layoutFitsSpec.pre enc Tryd.prog Tryd.f7 Rows.layoutFitsRow.domain false w args ∧ laidMetH Tryd.prog laid2 w) ∧ sizedMet enc Tryd.prog Tryd.f7 (OpenSpec.ofChange Rows.layoutFitsSpec) false w args)
      (Rows.layoutFitsSpec.post enc Tryd.prog Tryd.f7 false true false false) := by
  refine returnsInHanded_of_change_and (C := Tryd.checked) (X := fun w _ => laidMetH Tryd.prog laid2 w) (fun _ _ _ hh h => h.of_heap hh) own started (by kernel_rfl) Tryd.func7
    (ChangeSpec.witness_shaped (enc := enc) (C := Tryd.checked) (os := os) (X := fun w _ => laidMetH Tryd.prog laid2 w) false (World.laidAll Tryd.prog os laid2) #[.slice none 0 0, .int .i64 0, .int .i64 0, .int .i64 0, .int .i64 0, .int .i64 0] 8 (World.laidAll_os _ _ _)
      (World.shaped_of_ZipB (by kernel_rfl) (by kernel_rfl)) (by kernel_rfl) (by kernel_rfl) (by kernel_rfl)
      (by rw [MakeChecks.laidMetH_plain _ _ _ (by kernel_rfl)]; exact laidMet_laidAll _ (by kernel_rfl) (by kernel_rfl))) ?_
  intro W base args ds gs before hval0 hW _ _ hL _
  have hval : ∀ (j : Nat) t v, Tryd.f7.params[j]? = some t → args[j]? = some v → Value.okWide Tryd.prog W .any base t v := hval0
  have hW' := hW
  obtain ⟨p, q, hA0, hV, rfl, hfz, hnd⟩ := hW
  have hA : DataW.TrodAll enc Tryd.prog W 0 (fun _ => true) true Tryd.f7.params.toList args.toList ds p := hA0
  rw [Tryd.params7] at hA hval
  obtain ⟨v0, vs0, d0, ds0, p0, q0, hargs, rfl, rfl, h0, r0⟩ := trodAll_cons hA
  obtain ⟨v1, vs1, d1, ds1, p1, q1, rfl, rfl, rfl, h1, r1⟩ := trodAll_cons r0
  obtain ⟨v2, vs2, d2, ds2, p2, q2, rfl, rfl, rfl, h2, r2⟩ := trodAll_cons r1
  obtain ⟨v3, vs3, d3, ds3, p3, q3, rfl, rfl, rfl, h3, r3⟩ := trodAll_cons r2
  obtain ⟨v4, vs4, d4, ds4, p4, q4, rfl, rfl, rfl, h4, r4⟩ := trodAll_cons r3
  obtain ⟨v5, vs5, d5, ds5, p5, q5, rfl, rfl, rfl, h5, r5⟩ := trodAll_cons r4
  obtain ⟨rfl, rfl, rfl⟩ := trodAll_nil r5
  obtain rfl : args = #[v0, v1, v2, v3, v4, v5] := by cases args; simp_all
  obtain ⟨rfl, rfl⟩ := trodVars_none hV
  obtain ⟨a0, n0, c0, rfl⟩ := okWide_slice Tryd.underlying22 (hval 0 22 v0 rfl rfl)
  have k0 := h0
  have lt0 : ∀ x ∈ p0, x.block < W.heap.size := by obtain ⟨m, hm⟩ := k0; exact DataW.trod_lt m _ _ _ hm
  obtain ⟨l0, hn0, hc0, hC0⟩ := open_arg Tryd.underlying22 cellsOf55 opens_part h0
  obtain ⟨a1, rfl, rfl, rfl, w1⟩ := open_int Tryd.underlying3 (hval 1 3 v1 rfl rfl) h1
  obtain ⟨a2, rfl, rfl, rfl, w2⟩ := open_int Tryd.underlying3 (hval 2 3 v2 rfl rfl) h2
  obtain ⟨a3, rfl, rfl, rfl, w3⟩ := open_int Tryd.underlying3 (hval 3 3 v3 rfl rfl) h3
  obtain ⟨a4, rfl, rfl, rfl, w4⟩ := open_int Tryd.underlying3 (hval 4 3 v4 rfl rfl) h4
  obtain ⟨a5, rfl, rfl, rfl, w5⟩ := open_int Tryd.underlying3 (hval 5 3 v5 rfl rfl) h5
  clear hA0 hval0 hval
  refine (fits_walk a0 n0 c0 l0 hn0 hc0 a1 a2 a3 a4 a5 W hC0 (tabs_of_laid hL)).mono fun e W' ⟨he, bel⟩ => ?_
  subst he
  exact ⟨_, rfl, _, _, _, [], _, [], hW', trodAll_mk1 (shut_bool Tryd.underlying4 _), (trodAll_cons_mk (Below.trod laidOut (by kernel_rfl) (of_decide_eq_true (by kernel_rfl)) k0 bel lt0) (trodAll_cons_mk (shut_int Tryd.underlying3 w1) (trodAll_cons_mk (shut_int Tryd.underlying3 w2) (trodAll_cons_mk (shut_int Tryd.underlying3 w3) (trodAll_cons_mk (shut_int Tryd.underlying3 w4) (trodAll_cons_mk (shut_int Tryd.underlying3 w5) trodAll_mk0)))))), rfl, bel.frame _, fun h => by cases h⟩
theorem over : Rows.layoutFitsRow.holds Tryd.pinned (OpenSpec.ofChange Rows.layoutFitsSpec) :=
  OpenClaim.holds_of_wide 7 Tryd.f7 rfl rfl rfl rfl rfl rfl rfl ⟨rfl, rfl, rfl, rfl, rfl⟩ rfl rfl rfl rfl rfl (by kernel_rfl) Tryd.func7 (by kernel_rfl)
    (of_decide_eq_true (by kernel_rfl)) (by unfold Func.isWrapper; first | (rw [if_pos (by decide +kernel)]; kernel_rfl) | (rw [if_neg (by decide +kernel)]; exact ⟨rfl, rfl⟩))
    (fun os started H enc _ => lifted os started H enc)
theorem card : Rows.LayoutFitsCardSaid :=
  Claim7.holds_tied_plain_at .later [] [.data, .pinned] true Rows.layoutFitsCard.stood.harness false over (fun _ h => by cases h) (by kernel_rfl) (fun _ h => by cases h) layoutFits_row_tie rfl ⟨rfl, rfl⟩ (by kernel_rfl) rfl
    (fun f fn hf hfn => by
      obtain rfl : f = 7 := Option.some.inj ((show Tryd.prog.funcNamed "copyist/copyistlaw35.LayoutFits" = some 7 by kernel_rfl).symm.trans hf) |>.symm
      obtain rfl : fn = Tryd.f7 := (Option.some.inj (Tryd.func7.symm.trans hfn)).symm
      exact ⟨by kernel_rfl, fun j t ht => by
        rw [Tryd.params7] at ht
        have hm : t ∈ [22, 3] := by have := Array.mem_of_getElem? ht; simp at this ⊢; omega
        have hall : ([22, 3].all fun u => !Tryd.prog.wantsStandIn u) = true := by kernel_rfl
        exact (show Tryd.prog.wantsStandIn t = false by simpa using List.all_eq_true.1 hall t hm)⟩)
    (by kernel_rfl)
#print axioms card
end Go.Proofs.YtppjgofjjcdcdaaDoor.layoutFits
namespace Go.Proofs.YtppjgofjjcdcdaaDoor
/-- The card, under a short name, for the claim. -/
theorem layoutFits_holds : Rows.LayoutFitsCardSaid := layoutFits.card
end Go.Proofs.YtppjgofjjcdcdaaDoor
