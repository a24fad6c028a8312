/- copyistref35.Rows: the walk. -/
import Derived.Test.YtppjgofjjcdcdaaDoorJRa
import Derived.StillTailTactics
set_option linter.unusedVariables false
set_option linter.unusedSimpArgs false
/- copyistref35.Rows: the walk. -/
namespace Go.Proofs.YtppjgofjjcdcdaaDoor
open PLayoutRows
open Go.RowKit Go.Proofs.YtppjgofjjcdcdaaDoorW.PrintWords Go.Proofs.YtppjgofjjcdcdaaDoorW.PrintMore
set_option maxRecDepth 100000
set_option maxHeartbeats 16000000 in
theorem refRows_any (A : Option Addr) (c : Nat) (l : List Part) (n : Nat) (hn : l.length = n) (from_ to_ width tab : Int) (wrap : Bool) (most : Int) (w : World) (hC : Kd.C k55 w A n l) (hs : ∀ p ∈ l, p.f3.size ≤ 200) (hl : n ≤ 30) (rs : List Row) (err : Int) (hr : rowsP l from_ to_ width tab wrap most = (rs, err)) :
  Calls Tryd.prog 13 #[.slice A n c, .int .i64 from_, .int .i64 to_, .int .i64 width, .int .i64 tab, .bool wrap, .int .i64 most] w (RowsRet w rs err) := by
 have HCK := Lib.hid (rcheck_any A c l n hn from_ to_ w hC (fun p hp => by have := hs p hp; omega))
 have HC := Lib.hid hC
 have HS := Lib.hid hs
 have HN := Lib.hid hn
 have HR := Lib.hid hr
 have HCL := Lib.hid (show (charsP l).length ≤ 6000 by have := charsP_len 200 l hs; omega)
 clear hC hs hn hr
 obtain ⟨ce, hce⟩ : ∃ ce, checkP l from_ to_ = ce := ⟨_, rfl⟩
 rw [hce] at HCK
 have HCE := Lib.hid hce
 clear hce
 go_enter Tryd.func13, Tryd.ntmps13
 go_wp2_with fail
 refine HCK.out.mono ?_
 rintro e w1 ⟨rfl, hb1⟩
 have HB1 := Lib.hid hb1
 clear hb1 HCK
 by_cases hc0 : ce = 0
 ·subst hc0
  have HV := Lib.hid (show (if badR width tab most then ([], 3) else (collectR to_ most.toNat (rowsE width.toNat wrap to_ (unitsC tab (charsP l)).1), 0)) = (rs, err) by
   have h := HR.out
   unfold rowsP at h
   rw [HCE.out, if_neg (by simp)] at h
   exact h)
  have hcb := checkP_bounds HCE.out
  have HVALID := Lib.hid (checkP_valid HCE.out)
  have HCB := Lib.hid hcb
  have hto : to_ ≤ 65537 := hcb.2.2.1
  have hfr : 1 ≤ from_ := hcb.1
  have hft : from_ ≤ to_ := hcb.2.1
  clear HR hcb
  by_cases hbad : badR width tab most
  ·have hv := HV.out
   rw [if_pos hbad] at hv
   have HVV := Lib.hid (Prod.mk.inj hv)
   clear hv HV
   have hbx := hbad
   unfold badR at hbx
   clear hbad
   by_cases a1 : width < 4
   ·go_wp2_with (first | (((with_reducible refine wpList_unguard ?_ ?_); (focus rfl))) | (((with_reducible refine wpList_pass ?_ (by kernel_rfl) ?_); (focus rfl))))
    go_ret2
    obtain ⟨rfl, rfl⟩ := HVV.out
    exact ⟨_, rfl, Kd.N_nil _ _ _ _ _, HB1.out⟩
   have a1p : 4 ≤ width := by omega
   by_cases a2 : 1000 < width
   ·go_wp2_with (first | (((with_reducible refine wpList_unguard ?_ ?_); (focus rfl))) | (((with_reducible refine wpList_pass ?_ (by kernel_rfl) ?_); (focus rfl))))
    go_ret2
    obtain ⟨rfl, rfl⟩ := HVV.out
    exact ⟨_, rfl, Kd.N_nil _ _ _ _ _, HB1.out⟩
   have a2p : width ≤ 1000 := by omega
   by_cases a3 : tab < 1
   ·go_wp2_with (first | (((with_reducible refine wpList_unguard ?_ ?_); (focus rfl))) | (((with_reducible refine wpList_pass ?_ (by kernel_rfl) ?_); (focus rfl))))
    go_ret2
    obtain ⟨rfl, rfl⟩ := HVV.out
    exact ⟨_, rfl, Kd.N_nil _ _ _ _ _, HB1.out⟩
   have a3p : 1 ≤ tab := by omega
   by_cases a4 : 64 < tab
   ·go_wp2_with (first | (((with_reducible refine wpList_unguard ?_ ?_); (focus rfl))) | (((with_reducible refine wpList_pass ?_ (by kernel_rfl) ?_); (focus rfl))))
    go_ret2
    obtain ⟨rfl, rfl⟩ := HVV.out
    exact ⟨_, rfl, Kd.N_nil _ _ _ _ _, HB1.out⟩
   have a4p : tab ≤ 64 := by omega
   by_cases a5 : most < 0
   ·go_wp2_with (first | (((with_reducible refine wpList_unguard ?_ ?_); (focus rfl))) | (((with_reducible refine wpList_pass ?_ (by kernel_rfl) ?_); (focus rfl))))
    go_ret2
    obtain ⟨rfl, rfl⟩ := HVV.out
    exact ⟨_, rfl, Kd.N_nil _ _ _ _ _, HB1.out⟩
   have a5p : 0 ≤ most := by omega
   by_cases a6 : 10000 < most
   ·go_wp2_with (first | (((with_reducible refine wpList_unguard ?_ ?_); (focus rfl))) | (((with_reducible refine wpList_pass ?_ (by kernel_rfl) ?_); (focus rfl))))
    go_ret2
    obtain ⟨rfl, rfl⟩ := HVV.out
    exact ⟨_, rfl, Kd.N_nil _ _ _ _ _, HB1.out⟩
   exact absurd hbx (by omega)
  ·have hv := HV.out
   rw [if_neg hbad] at hv
   have hb := hbad
   unfold badR at hb
   obtain ⟨wd, rfl⟩ : ∃ wd : Nat, width = wd := ⟨width.toNat, by omega⟩
   obtain ⟨mo, rfl⟩ : ∃ mo : Nat, most = mo := ⟨most.toNat, by omega⟩
   rw [Int.toNat_natCast, Int.toNat_natCast] at hv
   have HVV := Lib.hid (Prod.mk.inj hv)
   have hw4 : (4 : Int) ≤ (wd : Int) := by omega
   have hw1000 : (wd : Int) ≤ 1000 := by omega
   have ht1 : 1 ≤ tab := by omega
   have ht2 : tab ≤ 64 := by omega
   have hm0 : (0 : Int) ≤ (mo : Int) := by omega
   have hm1 : (mo : Int) ≤ 10000 := by omega
   clear hbad hb hv HV
   obtain ⟨lim, hlim, hlm⟩ : ∃ lim : Nat, Enough wd wrap mo lim ∧ lim ≤ 10001000 := by
    cases wrap with
    | true => exact ⟨(mo + 1) * wd, ⟨fun _ => rfl, (fun h => by cases h)⟩, by have := Nat.mul_le_mul (show mo + 1 ≤ 10001 by omega) (show wd ≤ 1000 by omega); omega⟩
    | false => exact ⟨wd + 1, ⟨(fun h => by cases h), fun _ => rfl⟩, by omega⟩
   have HLIM := Lib.hid hlim
   have hlm2 : (lim : Int) ≤ 10001000 := by omega
   clear hlim
   go_upto_if 60 with (fail)
   go_cut [20] (fun v wc => v = .int .i64 lim ∧ Hid (w1 = wc))
   case first =>
    cases wrap with
    | true =>
     have hmul : ((mo : Int) + 1) * (wd : Int) = (lim : Int) := by rw [HLIM.out.1 rfl]; simp
     go_wp2
     go_meet
     case rel => exact ⟨rfl, Lib.hid rfl⟩
    | false =>
     have hmul : (wd : Int) + 1 = (lim : Int) := by rw [HLIM.out.2 rfl]; simp
     go_wp2
     go_meet
     case rel => exact ⟨by first | rfl | (rw [hmul]) | (congr 1; omega), Lib.hid rfl⟩
   case rest =>
    obtain ⟨rfl, hw0⟩ := hcut
    obtain rfl := hw0.out
    clear hw0
    go_wp2_with fail
    go_loopw [17, 18, 19, 21] (fun v17 v18 v19 v21 wr => ∃ (i : Nat) (rs' : List Row) (us : List Unt) (xs : List Chr) (cl : Int), v21 = .int .i64 i ∧ i ≤ n ∧ v19 = .int .i64 cl ∧ Hid (RfS w wr v17 v18 rs' us) ∧ Hid (RunS wd wrap lim tab l xs rs' us cl) ∧ Hid (rs'.length ≤ mo → xs = charsP (l.take i))) (fun _ _ _ v _ => n - (intOf v).toNat)
    case atStart => exact ⟨0, [], [], [], 0, rfl, Nat.zero_le _, rfl, Lib.hid (rf_start w _ HB1.out), Lib.hid (run_start wd wrap lim tab l), Lib.hid (fun _ => by simp [charsP])⟩
    case round =>
     obtain ⟨i, rs', us, xs, cl, rfl, hi, rfl, HSS, HRUN, HXS⟩ := hrel
     obtain ⟨hb1, hb2, hb3, -, -⟩ := run_bounds HRUN.out ht1 ht2 HCL.out
     obtain ⟨Ao, co, eo⟩ := Kd.N_slice HSS.out.o
     subst eo
     obtain ⟨ro, hro⟩ : ∃ ro, rs'.length = ro := ⟨_, rfl⟩
     rw [hro] at HSS hb1 ⊢
     rw [hro] at HXS
     have HRO := Lib.hid hro
     clear hro
     have hi0 : (0 : Int) ≤ (i : Int) := by omega
     by_cases hlt : i < n
     ·have hi1 : (i : Int) < (n : Int) := by omega
      have dlt : decide (i < n) = true := decide_eq_true hlt
      by_cases hle : ro ≤ mo
      ·have dle : decide (ro ≤ mo) = true := decide_eq_true hle
       have dle2 : (ro : Int) ≤ (mo : Int) := by omega
       obtain ⟨ad, e, x0, x1, x2, x3, x4, x5, x6, x7, x8⟩ := at_T55 (Kd.C_below HC.out HSS.out.b) (i : Int) (by omega) (by omega)
       subst e
       rw [Int.toNat_natCast] at x0 x1 x2 x3 x4 x5 x6 x7 x8
       obtain ⟨p, hp⟩ : ∃ p, l.getD i z55 = p := ⟨_, rfl⟩
       have hpr : rd_T55 l (i : Int) = p := hp
       rw [hpr] at x0 x1 x2 x3 x4 x5 x6 x7 x8
       have hil : i < l.length := by have := HN.out; omega
       have hpm : p ∈ l := by rw [← hp, List.getD_eq_getElem?_getD, List.getElem?_eq_getElem hil]; exact List.getElem_mem hil
       have hpb := HCB.out.2.2.2 p hpm
       have hps := HS.out p hpm
       have HLI := Lib.hid (fun W => rlist_any p.f3 W (by omega) (HVALID.out p hpm))
       have HP := Lib.hid hp
       have hp1 : 1 ≤ p.f1 := by omega
       have hp2 : p.f1 ≤ 65537 := by omega
       have HPS := Lib.hid hps
       clear hp hpr hpm hpb hps
       obtain ⟨pa, hpa⟩ : ∃ pa, ad.add (i * 9) = pa := ⟨_, rfl⟩
       rw [hpa] at x0 x1 x2 x3 x4 x5 x6 x7 x8
       go_wp2_with fail
       refine (HLI.out _).mono ?_
       rintro e w2 ⟨tv, rfl, hT, hbt⟩
       obtain ⟨At, ct, rfl⟩ := Kd.R_slice hT
       have hrl : (runesP p.f3).length ≤ 200 := by have := HPS.out; have h := runesFrom_len p.f3 p.f3.size 0; unfold runesP; omega
       obtain ⟨L, hL⟩ : ∃ L, (runesP p.f3).length = L := ⟨_, rfl⟩
       rw [hL] at hT hrl ⊢
       have HTX := Lib.hid (Kd.R_N (Kd.R_mono (Kd.R_bound hT) (fun k hk => rk_new HSS.out k hk.2.1 hk.2.2.1)))
       have HS2 := Lib.hid (rk_start (rf_below HSS.out hbt))
       have HL := Lib.hid hL
       clear hT hbt hL HSS x0 x1 x2 x3 x4 x5 x6 x7 x8 dlt dle
       go_wp2_with fail
       go_loopw [17, 18, 19, 24] (fun v17 v18 v19 v24 wm => ∃ (k : Nat) (rs2 : List Row) (us2 : List Unt) (xs2 : List Chr) (cl2 : Int), v24 = .int .i64 k ∧ k ≤ L ∧ v19 = .int .i64 cl2 ∧ Hid (RfK w w2 wm (Rest w2 (.slice Ao ro co) u18) v17 v18 rs2 us2) ∧ Hid (RunS wd wrap lim tab l xs2 rs2 us2 cl2) ∧ Hid (rs2.length ≤ mo → xs2 = charsP (l.take i) ++ (partChars p).take k)) (fun _ _ _ v _ => L - (intOf v).toNat)
       case atStart => exact ⟨0, rs', us, xs, cl, rfl, Nat.zero_le _, rfl, HS2, HRUN, Lib.hid (fun _ => by rw [HXS.out hle]; simp)⟩
       case round =>
        clear HS2 HRUN HXS hb1 hb2 hb3 HRO
        obtain ⟨k, rs2, us2, xs2, cl2, rfl, hk, rfl, HS2, HRUN, HXS⟩ := hrel
        obtain ⟨hb1, hb2, hb3, hpl, -⟩ := run_bounds HRUN.out ht1 ht2 HCL.out
        obtain ⟨A2, c2, eo⟩ := Kd.N_slice HS2.out.s.o
        subst eo
        obtain ⟨r2, hr2⟩ : ∃ r2, rs2.length = r2 := ⟨_, rfl⟩
        rw [hr2] at HS2 hb1 ⊢
        rw [hr2] at HXS
        have HR2 := Lib.hid hr2
        have HPL := Lib.hid hpl
        clear hr2 hpl
        have hk0 : (0 : Int) ≤ (k : Int) := by omega
        by_cases hkl : k < L
        ·have hk1 : (k : Int) < (L : Int) := by omega
         have dkl : decide (k < L) = true := decide_eq_true hkl
         by_cases hle2 : r2 ≤ mo
         ·have dle3 : decide (r2 ≤ mo) = true := decide_eq_true hle2
          have dle4 : (r2 : Int) ≤ (mo : Int) := by omega
          obtain ⟨ad', e, x0, x1, x2, x3, x4, x5, x6, x7, x8⟩ := at_T55 (Kd.C_below HC.out HS2.out.s.b) (i : Int) (by omega) (by omega)
          cases e
          rw [Int.toNat_natCast] at x0 x1 x2 x3 x4 x5 x6 x7 x8
          have hpr : rd_T55 l (i : Int) = p := HP.out
          rw [hpr, hpa] at x0 x1 x2 x3 x4 x5 x6 x7 x8
          obtain ⟨x, hx⟩ : ∃ x, (partChars p)[k]? = some x := ⟨_, partChars_get p k (by rw [HL.out]; exact hkl)⟩
          have hxv := partChars_get p k (by rw [HL.out]; exact hkl)
          rw [hx] at hxv
          have hxe := Option.some.inj hxv
          have hxc : (runesP p.f3).getD k 0 = x.c := by rw [hxe]
          have hxl : x.look = p.f4 := by rw [hxe]
          have hxp : x.pos = if p.f0 = 0 then p.f1 + k else p.f1 := by rw [hxe]
          obtain ⟨hch, htk⟩ := chars_at hil HP.out hx
          rw [← HXS.out hle2] at hch
          have HCH := Lib.hid hch
          have HTK := Lib.hid htk
          obtain ⟨at_, hat, hy⟩ := at_int (Kd.N_reads' (rk_N HS2.out HTX.out)).2.2 k (by rw [HL.out]; exact hkl)
          rw [hxc] at hy
          have HXL := Lib.hid hxl
          have HXP := Lib.hid hxp
          clear hpr hx hxv hxe hxc hxl hxp hch htk
          go_upto_if 108 with (fail)
          go_cut [25] (fun v wc => v = .int .i64 x.pos ∧ Hid (wr = wc))
          case first =>
           by_cases e0 : p.f0 = 0
           ·have hz : (p.f0 == 0) = true := by simp [e0]
            have hxp := HXP.out
            rw [if_pos e0] at hxp
            have HXQ := Lib.hid hxp
            clear e0 hxp
            go_wp2
            go_meet
            case rel => exact ⟨by rw [HXQ.out], Lib.hid rfl⟩
           ·have hz : (p.f0 == 0) = false := by simp [e0]
            have hxp := HXP.out
            rw [if_neg e0] at hxp
            have HXQ := Lib.hid hxp
            clear e0 hxp
            go_wp2
            go_meet
            case rel => exact ⟨by rw [HXQ.out], Lib.hid rfl⟩
          case rest =>
           obtain ⟨rfl, hw0⟩ := hcut
           obtain rfl := hw0.out
           clear hw0
           subst hat
           have HONE := Lib.hid (fun W => one_any x.c cl2 tab x.pos p.f4 W ht1 ht2 hb2 (by omega))
           go_wp2_with fail
           go_still_tail 12, (by kernel_rfl)
           change wpList _ _ _ _ _ wr.drew
           have HS3 := Lib.hid (rk_below HS2.out (below_drew1 (Below.refl _ _)))
           have hxe : (⟨x.c, x.pos, p.f4⟩ : Chr) = x := by rw [← HXL.out]
           rw [hxe] at HONE
           generalize hwdr : wr.drew = wdr at HS3 ⊢
           have h5 : ∀ a, wdr.cell? a = wr.cell? a := fun a => by rw [← hwdr]; rfl
           rw [← h5] at x0 x1 x2 x3 x4 x5 x6 x7 x8 hy
           clear HS2 hwdr h5 hxe
           go_wp2_with fail
           refine (HONE.out _).mono ?_
           rintro e w3 ⟨uv, rfl, hU, hb3'⟩
           obtain ⟨Au, cu, rfl⟩ := Kd.N_slice hU
           obtain ⟨uu, huu⟩ : ∃ uu, (oneU tab cl2 x).1 = uu := ⟨_, rfl⟩
           have hgu := oneU_good tab cl2 x
           have hul := oneU_len tab cl2 x ht1 ht2 hb2
           rw [huu] at hU hgu hul
           rw [huu, List.length_map]
           rw [List.length_map] at hU
           obtain ⟨m, hm⟩ : ∃ m, uu.length = m := ⟨_, rfl⟩
           rw [hm] at hU hul ⊢
           have HU := Lib.hid (Kd.N_mono (Kd.N_bound hU) (fun k hk => rk_new HS3.out.s k hk.1 hk.2))
           have HK3 := Lib.hid (rk_below HS3.out hb3')
           have HS4 := Lib.hid (rk_start HK3.out.s)
           have HUU := Lib.hid huu
           have HGU := Lib.hid hgu
           have HMM := Lib.hid hm
           clear hU hb3' huu hgu hm HS3 x0 x1 x2 x3 x4 x5 x6 x7 x8 hy HONE dle3 dkl
           go_wp2_with fail
           go_loopw [17, 18, 19, 27] (fun v17 v18 v19 v27 wq => ∃ (q : Nat) (rs3 : List Row) (us3 : List Unt) (cl3 : Int), v27 = .int .i64 q ∧ q ≤ m ∧ v19 = .int .i64 cl3 ∧ Hid (RfK w w3 wq (Rest w3 (.slice A2 r2 c2) u18) v17 v18 rs3 us3) ∧ Hid ((uu.take q).foldl (refStep wd wrap lim) (rs2, us2) = (rs3, us3)) ∧ Hid ((uu.take q).foldl refColS cl2 = cl3)) (fun _ _ _ v _ => m - (intOf v).toNat)
           case atStart => exact ⟨0, rs2, us2, cl2, rfl, Nat.zero_le _, rfl, HS4, Lib.hid rfl, Lib.hid rfl⟩
           case round =>
            clear HS4
            obtain ⟨q, rs3, us3, cl3, rfl, hq, rfl, HS4, HST, HCO⟩ := hrel
            obtain ⟨f1, f2, f3, f4⟩ := fold_facts (uu.take q) rs2 rs3 us2 us3 cl2 cl3 (fun v hv => HGU.out v (List.mem_of_mem_take hv)) HPL.out hb2 HST.out HCO.out
            have htl : (uu.take q).length = q := by rw [List.length_take, HMM.out]; omega
            rw [htl] at f1 f4
            have hr2' := HR2.out
            rw [hr2'] at f1
            have HPL3 := Lib.hid f2
            clear f2 htl hr2'
            have hq0 : (0 : Int) ≤ (q : Int) := by omega
            by_cases hqm : q < m
            ·have hq1 : (q : Int) < (m : Int) := by omega
             obtain ⟨au, A0, c0, e, y0, y1, y2, hFK⟩ := at_NU (rk_N HS4.out HU.out) q hqm
             subst e
             have hql : q < uu.length := by rw [HMM.out]; exact hqm
             obtain ⟨v, hv⟩ : ∃ v, uu.getD q ⟨[], 0, false⟩ = v := ⟨_, rfl⟩
             rw [hv] at y0 y1 y2 hFK
             have hvm : v ∈ uu := by rw [← hv, List.getD_eq_getElem?_getD, List.getElem?_eq_getElem hql]; exact List.getElem_mem hql
             have htq : uu.take (q + 1) = uu.take q ++ [v] := by rw [List.take_succ_eq_append_getElem hql, ← hv]; simp [hql]
             have hst := HST.out
             have hco := HCO.out
             have HSN := Lib.hid (show (uu.take (q + 1)).foldl (refStep wd wrap lim) (rs2, us2) = refStep wd wrap lim (rs3, us3) v by rw [htq, List.foldl_append, hst]; rfl)
             have HCN := Lib.hid (show (uu.take (q + 1)).foldl refColS cl2 = refColS cl3 v by rw [htq, List.foldl_append, hco]; rfl)
             have HG := Lib.hid (HGU.out v hvm)
             have HFK := Lib.hid hFK
             clear hFK hv hvm htq hst hco HST HCO
             obtain ⟨ua, hua⟩ : ∃ ua, au.add (q * 3) = ua := ⟨_, rfl⟩
             rw [hua] at y0 y1 y2
             obtain ⟨vl, hvl⟩ : ∃ vl, v.cells.length = vl := ⟨_, rfl⟩
             rw [hvl] at y0
             have HVL := Lib.hid hvl
             clear hvl
             obtain ⟨wo, rfl⟩ : ∃ wo : World, wo = wr := ⟨_, rfl⟩
             cases hvf : v.feed with
             | true =>
              as_aux_lemma =>
               rw [hvf] at y2
               have HVF := Lib.hid hvf
               clear hvf
               obtain ⟨An, cn, eo⟩ := Kd.N_slice HS4.out.s.n
               rw [List.length_map] at eo
               subst eo
               obtain ⟨s3, hs3⟩ : ∃ s3, us3.length = s3 := ⟨_, rfl⟩
               rw [hs3] at HS4 f1 ⊢
               obtain ⟨-, hcn, hCn⟩ := Kd.N_reads' HS4.out.s.n
               rw [List.length_map, hs3] at hCn
               obtain ⟨re, hre⟩ : ∃ re, rowsE wd wrap v.pos us3 = re := ⟨_, rfl⟩
               have hrl : re.length ≤ s3 + 1 := by rw [← hre, ← hs3]; exact rowsE_len _ _ _ _
               have HLA := Lib.hid (laid_walk An cn us3 s3 hs3 hcn v.pos wd wrap wo hCn (by omega) (by omega) HPL3.out (by omega))
               rw [hre] at HLA
               have HRE := Lib.hid hre
               clear hCn hre hs3
               go_wp2_with fail
               refine HLA.out.mono ?_
               rintro e w5 ⟨lv, rfl, hR, hb5⟩
               obtain ⟨Al, cl5, rfl, hcl5, hF⟩ := laid_F (w := w) hR
               have HO5 := Lib.hid (Kd.N_mono (Kd.N_below HS4.out.s.o hb5) (fun k hk => hk.1))
               have HF5 := Lib.hid hF
               have HB5 := Lib.hid (below_step HS4.out.s.b hb5)
               have HS5 := Lib.hid (rk_below HS4.out hb5)
               have hokp : ∀ k, wo.heap.size ≤ k → w.heap.size ≤ k ∧ some k ≠ u17.ownBlock := fun k hk => ⟨Nat.le_trans HS4.out.s.b.size hk, fun he => by have := Kd.N_lt HS4.out.s.o k he.symm; omega⟩
               have HOK := Lib.hid hokp
               clear hR hb5 hF hokp
               go_wp2_with (((with_reducible refine gate_builtin (b := .append) (xs := #[.tmp 145, .tmp 154]) rfl ?_); at_builtin; go_must (refine Kd.N_append_rows k39 (w0 := w) (W := w5) w.heap.size rfl (.tmp 145) (.tmp 154) 27 39 (.agg #[(.slice none 0 0), (.slice none 0 0), (.int .i64 0), (.int .i64 0), (.bool false)]) 72 rfl Tryd.underlying27 info39 rfl (by decide) (by omega) u17 rs3 re Al re.length cl5 (fun k => w.heap.size ≤ k) (fun k => wo.heap.size ≤ k) rfl rfl HO5.out HF5.out HOK.out (fun k hk => Nat.le_trans HB5.out.size hk) HB5.out HB5.out.size (by omega) ?_; intro v6 w6 ho6 hb6 hg6 hat6; have HS6 := Lib.hid (rk_feed HS5.out ho6 hb6 hg6 hat6); clear ho6 hb6 hg6 hat6 HO5 HF5 HB5 HS5 HOK)))
               go_roundw
               case rel => exact ⟨q + 1, rs3 ++ re, [], 0, by go_num, by omega, rfl, HS6, Lib.hid (by rw [HSN.out]; unfold refStep; rw [if_pos HVF.out, HRE.out]), Lib.hid (by rw [HCN.out]; unfold refColS; rw [if_pos HVF.out])⟩
               case measure => simp [intOf]; omega
             | false =>
              rw [hvf] at y2
              have HVF := Lib.hid hvf
              clear hvf
              have hg2 := HG.out HVF.out
              rw [HVL.out] at hg2
              obtain ⟨An, cn, eo⟩ := Kd.N_slice HS4.out.s.n
              rw [List.length_map] at eo
              subst eo
              obtain ⟨s3, hs3⟩ : ∃ s3, us3.length = s3 := ⟨_, rfl⟩
              rw [hs3] at HS4 f1 ⊢
              have hFK := HFK.out
              rw [HVL.out, HVF.out] at hFK
              have HFK2 := Lib.hid hFK
              have HS3N := Lib.hid hs3
              clear hs3 hFK HFK
              by_cases hlm : s3 < lim
              ·as_aux_lemma =>
                have dlm : decide (s3 < lim) = true := decide_eq_true hlm
                have dlm2 : (s3 : Int) < (lim : Int) := by omega
                have hokp : ∀ k, Rest w3 (.slice A2 r2 c2) u18 k → some k ≠ u17.ownBlock ∧ some k ≠ (Value.slice An s3 cn).ownBlock := fun k hk => ⟨fun he => HS4.out.ao k he.symm hk, fun he => HS4.out.an k he.symm hk⟩
                have HOK := Lib.hid hokp
                clear hokp
                go_wp2_with (((with_reducible refine gate_builtin (b := .append) (xs := #[.tmp 161, .tmp 166]) rfl ?_); at_builtin; go_must (refine Kd.N_append k72 (w0 := w) (W := wo) w.heap.size rfl (.tmp 161) (.tmp 166) 67 72 (.agg #[(.slice none 0 0), (.int .i64 0), (.bool false)]) 40 rfl Tryd.underlying67 info72 rfl (by decide) (by omega) (.slice An s3 cn) (us3.map toS) (toS v) [.slice A0 vl c0, .int .i64 v.pos, .bool false] (fun k => some k ≠ u17.ownBlock) (Rest w3 (.slice A2 r2 c2) u18) rfl rfl HFK2.out HOK.out (fun k hk he => by have := Kd.N_lt HS4.out.s.o k he.symm; omega) HS4.out.s.n HS4.out.s.b HS4.out.s.b.size (by rw [List.length_map, HS3N.out]; omega) ?_; intro v6 w6 hn6 hb6 hg6 hat6; have HS6 := Lib.hid (rk_now (vs := us3 ++ [v]) HS4.out (by rw [List.map_append]; exact hn6) hb6 hg6 hat6); clear hn6 hb6 hg6 hat6 HS4 HOK)))
                go_roundw
                case rel => exact ⟨q + 1, rs3, us3 ++ [v], cl3 + vl, by go_num, by omega, rfl, HS6, Lib.hid (by rw [HSN.out]; unfold refStep; rw [if_neg (by rw [HVF.out]; simp), if_pos (by rw [HS3N.out]; exact hlm)]), Lib.hid (by rw [HCN.out]; unfold refColS; rw [if_neg (by rw [HVF.out]; simp), HVL.out])⟩
                case measure => simp [intOf]; omega
              ·as_aux_lemma =>
                have dlm : decide (s3 < lim) = false := decide_eq_false hlm
                have dlm2 : (lim : Int) ≤ (s3 : Int) := by omega
                go_wp2_with fail
                go_roundw
                case rel => exact ⟨q + 1, rs3, us3, cl3 + vl, by go_num, by omega, rfl, HS4, Lib.hid (by rw [HSN.out]; unfold refStep; rw [if_neg (by rw [HVF.out]; simp), if_neg (by rw [HS3N.out]; exact hlm)]), Lib.hid (by rw [HCN.out]; unfold refColS; rw [if_neg (by rw [HVF.out]; simp), HVL.out])⟩
                case measure => simp [intOf]; omega
            ·as_aux_lemma =>
              obtain rfl : q = m := by omega
              have htk : uu.take q = uu := List.take_of_length_le (by rw [HMM.out]; exact Nat.le_refl _)
              have hst := HST.out
              have hco := HCO.out
              rw [htk] at hst hco
              have HRN := Lib.hid (run_next (rs' := rs3) (us' := us3) (cl' := cl3) HRUN.out ht1 ht2 x HCH.out (by rw [HUU.out]; exact hst) (by rw [HUU.out]; exact hco))
              clear htk hst hco
              go_wp2_with fail
              go_roundw
              case rel => exact ⟨k + 1, rs3, us3, xs2 ++ [x], cl3, by go_num, by omega, rfl, Lib.hid (rk_mono HS4.out (rk_rest HK3.out) HK3.out.same), HRN, Lib.hid (fun _ => by rw [HXS.out hle2, List.append_assoc, HTK.out])⟩
              case measure => simp [intOf]; omega
         ·as_aux_lemma =>
           have dle3 : decide (r2 ≤ mo) = false := decide_eq_false hle2
           have dle4 : (mo : Int) < (r2 : Int) := by omega
           go_wp2_with fail
           go_roundw
           case rel => exact ⟨i + 1, rs2, us2, xs2, cl2, by go_num, by omega, rfl, Lib.hid HS2.out.s, HRUN, Lib.hid (fun h => absurd (by rw [HR2.out] at h; exact h) hle2)⟩
           case measure => simp [intOf]; omega
        ·as_aux_lemma =>
          obtain rfl : k = L := by omega
          have hxe := HXS.out
          rw [List.take_of_length_le (show (partChars p).length ≤ k by rw [partChars_len, HL.out]; exact Nat.le_refl _)] at hxe
          have hcs := charsP_succ l i hil
          rw [HP.out] at hcs
          rw [← hcs, ← HR2.out] at hxe
          have HXN := Lib.hid hxe
          clear hxe hcs
          go_wp2_with fail
          go_roundw
          case rel => exact ⟨i + 1, rs2, us2, xs2, cl2, by go_num, by omega, rfl, Lib.hid HS2.out.s, HRUN, HXN⟩
          case measure => simp [intOf]; omega
      ·as_aux_lemma =>
        have dle : decide (ro ≤ mo) = false := decide_eq_false hle
        have dle2 : (mo : Int) < (ro : Int) := by omega
        have HFIN := Lib.hid (run_final HRUN.out (by omega) HLIM.out to_ (fun h => absurd (by rw [HRO.out] at h; exact h) hle))
        have hrs := HVV.out.1
        obtain ⟨F, hF⟩ : ∃ F, refF wd wrap to_ mo (rs', us) = F := ⟨_, rfl⟩
        rw [hF, hrs] at HFIN
        have HFF := Lib.hid hF
        have HFL := Lib.hid (show F.length ≤ 10000000 by rw [← hF]; unfold refF; have h1 := rowsE_len wd wrap to_ us; have h2 := HRO.out; split <;> (try rw [List.length_append]) <;> simp only <;> omega)
        have hAo := HSS.out
        obtain ⟨An, cn, eo⟩ := Kd.N_slice HSS.out.n
        rw [List.length_map] at eo
        subst eo
        obtain ⟨s3, hs3⟩ : ∃ s3, us.length = s3 := ⟨_, rfl⟩
        rw [hs3] at HSS hb1 hAo ⊢
        clear hrs hF HXS
        go_upto_if 171 with (fail)
        go_cut [17] (fun v wc => Hid (Kd.N k39 39 wc w.heap.size (fun k => w.heap.size ≤ k) v F) ∧ Hid (Below w.heap.size w wc))
        case first =>
         have hsk : F = rs' := by rw [← HFF.out]; unfold refF; rw [if_neg (by rw [HRO.out]; exact hle)]
         have HSK := Lib.hid hsk
         clear hsk
         go_wp2
         go_meet
         case rel => exact ⟨Lib.hid (by rw [HSK.out]; exact Kd.N_mono HSS.out.o (fun k hk => hk.1)), Lib.hid HSS.out.b⟩
        case rest =>
         obtain ⟨HNF, HBF⟩ := hcut
         clear HSS hAo HRUN
         obtain ⟨Af, cf, eo⟩ := Kd.N_slice HNF.out
         subst eo
         obtain ⟨f, hf⟩ : ∃ f, F.length = f := ⟨_, rfl⟩
         have hfl := HFL.out
         rw [hf] at hfl HNF ⊢
         have HFN := Lib.hid hf
         clear hf
         obtain ⟨wz, hwz⟩ : ∃ wz, wz = wc := ⟨_, rfl⟩
         rw [← hwz] at HNF HBF ⊢
         clear hwz
         go_wp2_with fail
         go_loopw [28] (fun v28 wt => ∃ j : Nat, v28 = .int .i64 j ∧ j ≤ f ∧ Hid (Kd.N k39 39 wt w.heap.size (fun k => w.heap.size ≤ k) (.slice Af f cf) (tosTo to_ F j)) ∧ Hid (Below w.heap.size w wt)) (fun v _ => f - (intOf v).toNat)
         case atStart => exact ⟨0, rfl, Nat.zero_le _, by rw [tosTo_zero]; exact HNF, HBF⟩
         case round =>
          clear HNF HBF
          obtain ⟨j, rfl, hj, HNJ, HBJ⟩ := hrel
          have hj0 : (0 : Int) ≤ (j : Int) := by omega
          by_cases hjf : j < f
          ·have hj1 : (j : Int) < (f : Int) := by omega
           have hjF : j < F.length := by rw [HFN.out]; exact hjf
           obtain ⟨g, cap, eo, hg1, -, -⟩ := Kd.N_form HNJ.out (by rw [tosTo_len to_ F j (by omega)]; omega)
           have htl : (tosTo to_ F j).length = f := by rw [tosTo_len to_ F j (by omega), HFN.out]
           rw [htl] at eo
           cases eo
           obtain ⟨⟨v0, t0⟩, z0, -⟩ := n_tocell HNJ.out j hjf
           have HN1 := Lib.hid (n_to HNJ.out j hjf to_)
           have HB1 := Lib.hid (show Below w.heap.size w (wr.setCell ⟨g, j * 5 + 3, none⟩ (.int .i64 to_)) from HBJ.out.setCell hg1 _)
           clear htl
           by_cases hlast : j + 1 < f
           ·as_aux_lemma =>
             have hl1 : (j : Int) + 1 < (f : Int) := by omega
             have hl2 : (0 : Int) ≤ (j : Int) + 1 := by omega
             have hl3 : ((j : Int) + 1).toNat = j + 1 := by omega
             obtain ⟨⟨v1, t1⟩, z1, -⟩ := n_tocell HN1.out j hjf
             obtain ⟨-, -, t2⟩ := n_tocell HN1.out (j + 1) hlast
             obtain ⟨fr, hfr⟩ : ∃ fr, (((tosTo to_ F j).set j (toR ((tosTo to_ F j).getD j z39) to_)).getD (j + 1) z39).f2 = fr := ⟨_, rfl⟩
             have hfe : fr = nextF to_ F j := by
              rw [← hfr, nextF_mid to_ F j (by rw [HFN.out]; exact hlast), ← tosTo_get to_ F j (j + 1) (by omega) (by rw [HFN.out]; exact hlast)]
              congr 1
              simp [List.getD_eq_getElem?_getD, List.getElem?_set]
             rw [hfr] at t2
             have HTW := Lib.hid (tos_twice to_ F j hjF fr hfe)
             have HN2 := Lib.hid (n_to HN1.out j hjf fr)
             have HB2 := Lib.hid (show Below w.heap.size w ((wr.setCell ⟨g, j * 5 + 3, none⟩ (.int .i64 to_)).setCell ⟨g, j * 5 + 3, none⟩ (.int .i64 fr)) from HB1.out.setCell hg1 _)
             clear hfr hfe HNJ HBJ
             go_wp2_with fail
             go_roundw
             case rel => exact ⟨j + 1, by go_num, by omega, by rw [← HTW.out]; exact HN2, HB2⟩
             case measure => simp [intOf]; omega
           ·as_aux_lemma =>
             have hl1 : (f : Int) ≤ (j : Int) + 1 := by omega
             have HTW := Lib.hid (tos_once to_ F j hjF (nextF_last to_ F j (by rw [HFN.out]; exact hlast)).symm)
             clear HNJ HBJ
             go_wp2_with fail
             go_roundw
             case rel => exact ⟨j + 1, by go_num, by omega, by rw [← HTW.out]; exact HN1, HB1⟩
             case measure => simp [intOf]; omega
          ·as_aux_lemma =>
            obtain rfl : j = f := by omega
            have hta := tosTo_all to_ F j (by rw [HFN.out]; exact Nat.le_refl _)
            rw [hta] at HNJ
            have htf : (tosR to_ F).length = j := by rw [tosR_len, HFN.out]
            have HTF := Lib.hid htf
            obtain ⟨-, hjc, -⟩ := Kd.N_reads' HNJ.out
            clear hta htf
            by_cases hcutm : mo < j
            ·have hm2 : (mo : Int) < (j : Int) := by omega
             have dmm : decide (mo < j) = true := decide_eq_true hcutm
             obtain ⟨i0, hi39, _, _, _⟩ := info_parts info39
             have hrun := cut_to (P := Tryd.prog) 27 39 .i64 Tryd.underlying27 hi39 Af j cf (mo : Int) hm0 (by omega) hjc
             rw [Int.toNat_natCast] at hrun
             have HNT := Lib.hid (Kd.N_take (m := mo) HNJ.out (by rw [HTF.out]; omega))
             rw [HFIN.out] at HNT
             clear hi39
             go_wp2
             go_ret2
             obtain ⟨-, rfl⟩ := HVV.out
             exact ⟨_, rfl, HNT.out, HBJ.out⟩
            ·have hm2 : (j : Int) ≤ (mo : Int) := by omega
             have dmm : decide (mo < j) = false := decide_eq_false hcutm
             have HNT := HNJ
             have hfin := HFIN.out
             rw [List.take_of_length_le (by rw [HTF.out]; omega)] at hfin
             rw [hfin] at HNT
             clear hfin
             go_wp2
             go_ret2
             obtain ⟨-, rfl⟩ := HVV.out
             exact ⟨_, rfl, HNT.out, HBJ.out⟩
     ·as_aux_lemma =>
       obtain rfl : i = n := by omega
       have dlt : decide (i < i) = false := by simp
       have HFIN := Lib.hid (run_final HRUN.out (by omega) HLIM.out to_ (fun h => by have h2 := HXS.out (by rw [HRO.out] at h; exact h); rw [List.take_of_length_le (by rw [HN.out]; exact Nat.le_refl _)] at h2; exact h2))
       have hrs := HVV.out.1
       obtain ⟨F, hF⟩ : ∃ F, refF wd wrap to_ mo (rs', us) = F := ⟨_, rfl⟩
       rw [hF, hrs] at HFIN
       have HFF := Lib.hid hF
       have HFL := Lib.hid (show F.length ≤ 10000000 by rw [← hF]; unfold refF; have h1 := rowsE_len wd wrap to_ us; have h2 := HRO.out; split <;> (try rw [List.length_append]) <;> simp only <;> omega)
       have hAo := HSS.out
       obtain ⟨An, cn, eo⟩ := Kd.N_slice HSS.out.n
       rw [List.length_map] at eo
       subst eo
       obtain ⟨s3, hs3⟩ : ∃ s3, us.length = s3 := ⟨_, rfl⟩
       rw [hs3] at HSS hb1 hAo ⊢
       clear hrs hF HXS
       go_upto_if 171 with (fail)
       go_cut [17] (fun v wc => Hid (Kd.N k39 39 wc w.heap.size (fun k => w.heap.size ≤ k) v F) ∧ Hid (Below w.heap.size w wc))
       case first =>
        by_cases hle : ro ≤ mo
        ·have dle : decide (ro ≤ mo) = true := decide_eq_true hle
         have dle2 : (ro : Int) ≤ (mo : Int) := by omega
         obtain ⟨-, hcn, hCn⟩ := Kd.N_reads' HSS.out.n
         rw [List.length_map, hs3] at hCn
         obtain ⟨-, -, -, hpl, -⟩ := run_bounds HRUN.out ht1 ht2 HCL.out
         obtain ⟨re, hre⟩ : ∃ re, rowsE wd wrap to_ us = re := ⟨_, rfl⟩
         have hrl : re.length ≤ s3 + 1 := by rw [← hre, ← hs3]; exact rowsE_len _ _ _ _
         have hsk : F = rs' ++ re := by rw [← HFF.out, ← hre]; unfold refF; rw [if_pos (by rw [HRO.out]; exact hle)]
         have HSK := Lib.hid hsk
         have HLA := Lib.hid (laid_walk An cn us s3 hs3 hcn to_ wd wrap wr hCn (by omega) (by omega) hpl (by omega))
         rw [hre] at HLA
         clear hCn hre hsk hpl
         go_wp2_with fail
         refine HLA.out.mono ?_
         rintro e w5 ⟨lv, rfl, hR, hb5⟩
         obtain ⟨Al, cl5, rfl, hcl5, hF⟩ := laid_F (w := w) hR
         have HO5 := Lib.hid (Kd.N_mono (Kd.N_below HSS.out.o hb5) (fun k hk => hk.1))
         have HF5 := Lib.hid hF
         have HB5 := Lib.hid (below_step HSS.out.b hb5)
         have hokp : ∀ k, wr.heap.size ≤ k → w.heap.size ≤ k ∧ some k ≠ (Value.slice Ao ro co).ownBlock := fun k hk => ⟨Nat.le_trans HSS.out.b.size hk, fun he => by have := Kd.N_lt HSS.out.o k he.symm; omega⟩
         have HOK := Lib.hid hokp
         have hrol : (rs'.length + re.length) * 72 ≤ 140737488355328 := by rw [HRO.out]; omega
         clear hR hb5 hF hokp
         go_wp2_with (((with_reducible refine gate_builtin (b := .append) (xs := #[.tmp 172, .tmp 177]) rfl ?_); at_builtin; go_must (refine Kd.N_append_rows k39 (w0 := w) (W := w5) w.heap.size rfl (.tmp 172) (.tmp 177) 27 39 (.agg #[(.slice none 0 0), (.slice none 0 0), (.int .i64 0), (.int .i64 0), (.bool false)]) 72 rfl Tryd.underlying27 info39 rfl (by decide) (by omega) (.slice Ao ro co) rs' re Al re.length cl5 (fun k => w.heap.size ≤ k) (fun k => wr.heap.size ≤ k) rfl rfl HO5.out HF5.out HOK.out (fun k hk => Nat.le_trans HB5.out.size hk) HB5.out HB5.out.size hrol ?_; intro v6 w6 ho6 hb6 _ _; have HN6 := Lib.hid ho6; have HB6 := Lib.hid hb6; clear ho6 hb6 HO5 HF5 HB5 HOK)))
         go_meet
         case rel => exact ⟨Lib.hid (by rw [HSK.out]; exact HN6.out), HB6⟩
        ·as_aux_lemma =>
          have dle : decide (ro ≤ mo) = false := decide_eq_false hle
          have dle2 : (mo : Int) < (ro : Int) := by omega
          have hsk : F = rs' := by rw [← HFF.out]; unfold refF; rw [if_neg (by rw [HRO.out]; exact hle)]
          have HSK := Lib.hid hsk
          clear hsk
          go_wp2
          go_meet
          case rel => exact ⟨Lib.hid (by rw [HSK.out]; exact Kd.N_mono HSS.out.o (fun k hk => hk.1)), Lib.hid HSS.out.b⟩
       case rest =>
        obtain ⟨HNF, HBF⟩ := hcut
        clear HSS hAo HRUN
        obtain ⟨Af, cf, eo⟩ := Kd.N_slice HNF.out
        subst eo
        obtain ⟨f, hf⟩ : ∃ f, F.length = f := ⟨_, rfl⟩
        have hfl := HFL.out
        rw [hf] at hfl HNF ⊢
        have HFN := Lib.hid hf
        clear hf
        obtain ⟨wz, hwz⟩ : ∃ wz, wz = wc := ⟨_, rfl⟩
        rw [← hwz] at HNF HBF ⊢
        clear hwz
        go_wp2_with fail
        go_loopw [28] (fun v28 wt => ∃ j : Nat, v28 = .int .i64 j ∧ j ≤ f ∧ Hid (Kd.N k39 39 wt w.heap.size (fun k => w.heap.size ≤ k) (.slice Af f cf) (tosTo to_ F j)) ∧ Hid (Below w.heap.size w wt)) (fun v _ => f - (intOf v).toNat)
        case atStart => exact ⟨0, rfl, Nat.zero_le _, by rw [tosTo_zero]; exact HNF, HBF⟩
        case round =>
         clear HNF HBF
         obtain ⟨j, rfl, hj, HNJ, HBJ⟩ := hrel
         have hj0 : (0 : Int) ≤ (j : Int) := by omega
         by_cases hjf : j < f
         ·have hj1 : (j : Int) < (f : Int) := by omega
          have hjF : j < F.length := by rw [HFN.out]; exact hjf
          obtain ⟨g, cap, eo, hg1, -, -⟩ := Kd.N_form HNJ.out (by rw [tosTo_len to_ F j (by omega)]; omega)
          have htl : (tosTo to_ F j).length = f := by rw [tosTo_len to_ F j (by omega), HFN.out]
          rw [htl] at eo
          cases eo
          obtain ⟨⟨v0, t0⟩, z0, -⟩ := n_tocell HNJ.out j hjf
          have HN1 := Lib.hid (n_to HNJ.out j hjf to_)
          have HB1 := Lib.hid (show Below w.heap.size w (wr.setCell ⟨g, j * 5 + 3, none⟩ (.int .i64 to_)) from HBJ.out.setCell hg1 _)
          clear htl
          by_cases hlast : j + 1 < f
          ·as_aux_lemma =>
            have hl1 : (j : Int) + 1 < (f : Int) := by omega
            have hl2 : (0 : Int) ≤ (j : Int) + 1 := by omega
            have hl3 : ((j : Int) + 1).toNat = j + 1 := by omega
            obtain ⟨⟨v1, t1⟩, z1, -⟩ := n_tocell HN1.out j hjf
            obtain ⟨-, -, t2⟩ := n_tocell HN1.out (j + 1) hlast
            obtain ⟨fr, hfr⟩ : ∃ fr, (((tosTo to_ F j).set j (toR ((tosTo to_ F j).getD j z39) to_)).getD (j + 1) z39).f2 = fr := ⟨_, rfl⟩
            have hfe : fr = nextF to_ F j := by
             rw [← hfr, nextF_mid to_ F j (by rw [HFN.out]; exact hlast), ← tosTo_get to_ F j (j + 1) (by omega) (by rw [HFN.out]; exact hlast)]
             congr 1
             simp [List.getD_eq_getElem?_getD, List.getElem?_set]
            rw [hfr] at t2
            have HTW := Lib.hid (tos_twice to_ F j hjF fr hfe)
            have HN2 := Lib.hid (n_to HN1.out j hjf fr)
            have HB2 := Lib.hid (show Below w.heap.size w ((wr.setCell ⟨g, j * 5 + 3, none⟩ (.int .i64 to_)).setCell ⟨g, j * 5 + 3, none⟩ (.int .i64 fr)) from HB1.out.setCell hg1 _)
            clear hfr hfe HNJ HBJ
            go_wp2_with fail
            go_roundw
            case rel => exact ⟨j + 1, by go_num, by omega, by rw [← HTW.out]; exact HN2, HB2⟩
            case measure => simp [intOf]; omega
          ·as_aux_lemma =>
            have hl1 : (f : Int) ≤ (j : Int) + 1 := by omega
            have HTW := Lib.hid (tos_once to_ F j hjF (nextF_last to_ F j (by rw [HFN.out]; exact hlast)).symm)
            clear HNJ HBJ
            go_wp2_with fail
            go_roundw
            case rel => exact ⟨j + 1, by go_num, by omega, by rw [← HTW.out]; exact HN1, HB1⟩
            case measure => simp [intOf]; omega
         ·as_aux_lemma =>
           obtain rfl : j = f := by omega
           have hta := tosTo_all to_ F j (by rw [HFN.out]; exact Nat.le_refl _)
           rw [hta] at HNJ
           have htf : (tosR to_ F).length = j := by rw [tosR_len, HFN.out]
           have HTF := Lib.hid htf
           obtain ⟨-, hjc, -⟩ := Kd.N_reads' HNJ.out
           clear hta htf
           by_cases hcutm : mo < j
           ·have hm2 : (mo : Int) < (j : Int) := by omega
            have dmm : decide (mo < j) = true := decide_eq_true hcutm
            obtain ⟨i0, hi39, _, _, _⟩ := info_parts info39
            have hrun := cut_to (P := Tryd.prog) 27 39 .i64 Tryd.underlying27 hi39 Af j cf (mo : Int) hm0 (by omega) hjc
            rw [Int.toNat_natCast] at hrun
            have HNT := Lib.hid (Kd.N_take (m := mo) HNJ.out (by rw [HTF.out]; omega))
            rw [HFIN.out] at HNT
            clear hi39
            go_wp2
            go_ret2
            obtain ⟨-, rfl⟩ := HVV.out
            exact ⟨_, rfl, HNT.out, HBJ.out⟩
           ·have hm2 : (j : Int) ≤ (mo : Int) := by omega
            have dmm : decide (mo < j) = false := decide_eq_false hcutm
            have HNT := HNJ
            have hfin := HFIN.out
            rw [List.take_of_length_le (by rw [HTF.out]; omega)] at hfin
            rw [hfin] at HNT
            clear hfin
            go_wp2
            go_ret2
            obtain ⟨-, rfl⟩ := HVV.out
            exact ⟨_, rfl, HNT.out, HBJ.out⟩
 ·have hv := HR.out
  unfold rowsP at hv
  rw [HCE.out, if_pos hc0] at hv
  have HVV := Lib.hid (Prod.mk.inj hv)
  have hb0 : (ce != 0) = true := by simp [hc0]
  clear hv HR hc0
  go_wp2_with (first | (((with_reducible refine wpList_unguard ?_ ?_); (focus rfl))) | (((with_reducible refine wpList_pass ?_ (by kernel_rfl) ?_); (focus rfl))))
  go_ret2
  obtain ⟨rfl, rfl⟩ := HVV.out
  exact ⟨_, rfl, Kd.N_nil _ _ _ _ _, HB1.out⟩
end Go.Proofs.YtppjgofjjcdcdaaDoor
