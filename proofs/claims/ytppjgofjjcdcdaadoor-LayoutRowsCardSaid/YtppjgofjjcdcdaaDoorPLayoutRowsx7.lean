-- as print.sh printed it, the indentation halved
import Derived.Test.YtppjgofjjcdcdaaDoorPLayoutRowsx0
import Derived.Test.YtppjgofjjcdcdaaDoorPLayoutRowsx3
namespace Go.Proofs.YtppjgofjjcdcdaaDoor.PLayoutRows
open Go.RowKit Go.Proofs.YtppjgofjjcdcdaaDoorW.PrintWords Go.Proofs.YtppjgofjjcdcdaaDoorW.PrintLast Go.Proofs.YtppjgofjjcdcdaaDoorW.PrintMore
attribute [local go_sem] max2_int min2_int max_two min_two max_three min_three max_four min_four   -- for this text's walks alone
set_option linter.unusedVariables false
set_option linter.unusedSimpArgs false

/-! ### copyistref01_in: function 70 -/
def copyistref01_in.l0 : Nat → Int → List Int → Int → Option (Bool)
 | 0, _, _, _ => none
 | k + 1, x0, x1, x5 => if (wrap64 (x5 + 1)) < (x1.length : Int) then (if 0 ≤ x5 then (if x5 < (x1.length : Int) then (if x0 ≥ (rd x1 x5) then (if 0 ≤ (wrap64 (x5 + 1)) then (if x0 ≤ (rd x1 (wrap64 (x5 + 1))) then (some true) else (copyistref01_in.l0 k x0 x1 (wrap64 (x5 + 2)))) else (none)) else (copyistref01_in.l0 k x0 x1 (wrap64 (x5 + 2)))) else (none)) else (none)) else (some false)
def copyistref01_in.f (k : Nat) (a0 : Int) (l1 : List Int) : Option (Bool) := copyistref01_in.l0 k a0 l1 0
theorem copyistref01_in.mono_l : ∀ k, (∀ y0 y1 y2, LeO (copyistref01_in.l0 k y0 y1 y2) (copyistref01_in.l0 (k + 1) y0 y1 y2))
 | 0 => fun _ _ _ r h => by simp [copyistref01_in.l0] at h
 | k + 1 => by
  have ih0 := copyistref01_in.mono_l k
  ·intro y0 y1 y2
   unfold copyistref01_in.l0
   repeat' first
   | (with_reducible exact ih0 _ _ _)
   | (with_reducible exact LeO.refl _)
   | (with_reducible exact LeO.none _)
   | (with_reducible refine LeO.ite ?_ ?_)
   | (with_reducible refine LeO.bind ?_ (fun _ => ?_))
   | exact ih0 _ _ _
   | exact LeO.none _
   | refine LeO.ite ?_ ?_
   | refine LeO.bind ?_ (fun _ => ?_)
theorem copyistref01_in.mono : ∀ a0 a1 k, LeO (copyistref01_in.f k a0 a1) (copyistref01_in.f (k + 1) a0 a1) := by
 intro a0 a1 k
 have ih0 := copyistref01_in.mono_l k
 unfold copyistref01_in.f
 repeat' first
   | (with_reducible exact ih0 _ _ _)
   | (with_reducible exact LeO.refl _)
   | (with_reducible exact LeO.none _)
   | (with_reducible refine LeO.ite ?_ ?_)
   | (with_reducible refine LeO.bind ?_ (fun _ => ?_))
   | exact ih0 _ _ _
   | exact LeO.none _
   | refine LeO.ite ?_ ?_
   | refine LeO.bind ?_ (fun _ => ?_)
set_option maxHeartbeats 8000000 in
set_option maxRecDepth 100000 in
theorem copyistref01_in.calls (k : Nat) (a0 : Int) (A1 : Option Addr) (c1 : Nat) (l1 : List Int) (r : Bool) (w : World) (hr1 : Kd.C (Kd.int .i64) w A1 l1.length l1) (hc1 : l1.length ≤ c1) (h : copyistref01_in.f k a0 l1 = some r) :
  Calls Tryd.prog 70 #[.int .i64 a0, .slice A1 l1.length c1] w fun e w' => e = .returned (.bool r) ∧ Drawn0 w w' := by
 have HR1 := Aside0.mk hr1
 have HC1 := Aside0.mk hc1
 clear hr1 hc1
 have H : (copyistref01_in.l0 k a0 l1 0) = some r := h
 clear h
 have H' := Aside0.mk H
 clear H
 go_enter Tryd.func70, Tryd.ntmps70
 go_wp2
 go_loopg [5] k (fun kq v5 w' => ∃ (x5_1 : Int), v5 = .int .i64 x5_1 ∧ Aside0 (copyistref01_in.l0 kq a0 l1 x5_1 = some r) ∧ Aside0 (kq ≤ k) ∧ Drawn0 w w')
 case atStart => exact ⟨(0), (by first | rfl | (simp; done) | (simp [*]; done)), H', ⟨Nat.le_refl _⟩, by repeat (first | exact Drawn0.refl _ | apply Drawn0.step)⟩
 case round =>
  clear H'
  try clear c1
  try clear p2
  obtain ⟨x5_1, rfl, HA, HK1, ⟨m1, rfl⟩⟩ := hrel
  cases gk with
  | zero => exact absurd HA.out (by simp [copyistref01_in.l0])
  | succ k1 =>
   have H := HA.out
   clear HA
   simp only [copyistref01_in.l0] at H
   by_cases c3 : (wrap64 (x5_1 + 1)) < (l1.length : Int)
   ·rw [if_pos c3] at H
    have c3b0 : decide ((wrap64 (x5_1 + 1)) < (l1.length : Int)) = true := decide_eq_true c3
    clear c3
    by_cases c4 : 0 ≤ x5_1
    ·rw [if_pos c4] at H
     have c4b0 : decide (0 ≤ x5_1) = true := decide_eq_true c4
     clear c4
     by_cases c5 : x5_1 < (l1.length : Int)
     ·rw [if_pos c5] at H
      have c5b0 : decide (x5_1 < (l1.length : Int)) = true := decide_eq_true c5
      clear c5
      by_cases c6 : a0 ≥ (rd l1 x5_1)
      ·rw [if_pos c6] at H
       have c6b0 : decide ((rd l1 x5_1) ≤ a0) = true := decide_eq_true c6
       clear c6
       obtain ⟨ji7, hji7⟩ : ∃ j_ : Int, (wrap64 (x5_1 + 1)) = j_ := ⟨_, rfl⟩
       replace H : (if 0 ≤ (ji7) then (if a0 ≤ (rd l1 (ji7)) then (some true) else (copyistref01_in.l0 k1 a0 l1 (wrap64 (x5_1 + 2)))) else (none)) = some r := by first | (rw [hji7] at H; exact H) | (simp only [hji7] at H ⊢; exact H)
       (try rw [hji7] at c3b0)
       have hji7w : (IntKind.i64.wrap (x5_1 + 1)) = ji7 := (i64_w _).trans hji7
       by_cases c8 : 0 ≤ (ji7)
       ·rw [if_pos c8] at H
        have c8b0 : decide (0 ≤ (ji7)) = true := decide_eq_true c8
        clear c8
        by_cases c9 : a0 ≤ (rd l1 (ji7))
        ·rw [if_pos c9] at H
         have c9b0 : decide (a0 ≤ (rd l1 (ji7))) = true := decide_eq_true c9
         clear c9
         obtain rfl := Option.some.inj H
         have p183 : 0 ≤ (x5_1 : Int) := of_decide_eq_true (by first | (with_reducible assumption) | assumption)
         have q183 : x5_1 < (l1.length : Int) := of_decide_eq_true (by first | (with_reducible assumption) | assumption)
         obtain ⟨ad183, e183, hx183_0⟩ := Kd.at_int HR1.out x5_1 p183 q183
         cases e183
         replace p183 := eq_true p183
         replace q183 := eq_true q183
         have p184 : 0 ≤ ((ji7) : Int) := of_decide_eq_true (by first | (with_reducible assumption) | assumption)
         have q184 : (ji7) < (l1.length : Int) := of_decide_eq_true (by first | (with_reducible assumption) | assumption)
         obtain ⟨ad184, e184, hx184_0⟩ := Kd.at_int HR1.out (ji7) p184 q184
         obtain rfl : ad183 = ad184 := (by injection e184)
         replace p184 := eq_true p184
         replace q184 := eq_true q184
         go_wp2
         go_ret
         exact ⟨by first | rfl | (simp; done) | (simp only [← hji7] <;> (first | rfl | simp)) | (simp [*]; done), by repeat (first | exact Drawn0.refl _ | apply Drawn0.step)⟩
        ·rw [if_neg c9] at H
         have c9b0 : decide (a0 ≤ (rd l1 (ji7))) = false := decide_eq_false c9
         clear c9
         have H' := Aside0.mk H
         clear H
         have p183 : 0 ≤ (x5_1 : Int) := of_decide_eq_true (by first | (with_reducible assumption) | assumption)
         have q183 : x5_1 < (l1.length : Int) := of_decide_eq_true (by first | (with_reducible assumption) | assumption)
         obtain ⟨ad183, e183, hx183_0⟩ := Kd.at_int HR1.out x5_1 p183 q183
         cases e183
         replace p183 := eq_true p183
         replace q183 := eq_true q183
         have p184 : 0 ≤ ((ji7) : Int) := of_decide_eq_true (by first | (with_reducible assumption) | assumption)
         have q184 : (ji7) < (l1.length : Int) := of_decide_eq_true (by first | (with_reducible assumption) | assumption)
         obtain ⟨ad184, e184, hx184_0⟩ := Kd.at_int HR1.out (ji7) p184 q184
         obtain rfl : ad183 = ad184 := (by injection e184)
         replace p184 := eq_true p184
         replace q184 := eq_true q184
         go_wp2
         go_roundg k1
         case measure => have := HK1.out; omega
         case rel => exact ⟨(wrap64 (x5_1 + 2)), (by first | rfl | (simp; done) | (simp [*]; done)), H', ⟨by have := HK1.out; omega⟩, by repeat (first | exact Drawn0.refl _ | apply Drawn0.step)⟩
       ·rw [if_neg c8] at H
        exact absurd H (by simp)
      ·rw [if_neg c6] at H
       have c6b0 : decide ((rd l1 x5_1) ≤ a0) = false := decide_eq_false c6
       clear c6
       have H' := Aside0.mk H
       clear H
       have p183 : 0 ≤ (x5_1 : Int) := of_decide_eq_true (by first | (with_reducible assumption) | assumption)
       have q183 : x5_1 < (l1.length : Int) := of_decide_eq_true (by first | (with_reducible assumption) | assumption)
       obtain ⟨ad183, e183, hx183_0⟩ := Kd.at_int HR1.out x5_1 p183 q183
       cases e183
       replace p183 := eq_true p183
       replace q183 := eq_true q183
       go_wp2
       go_roundg k1
       case measure => have := HK1.out; omega
       case rel => exact ⟨(wrap64 (x5_1 + 2)), (by first | rfl | (simp; done) | (simp [*]; done)), H', ⟨by have := HK1.out; omega⟩, by repeat (first | exact Drawn0.refl _ | apply Drawn0.step)⟩
     ·rw [if_neg c5] at H
      exact absurd H (by simp)
    ·rw [if_neg c4] at H
     exact absurd H (by simp)
   ·rw [if_neg c3] at H
    have c3b0 : decide ((wrap64 (x5_1 + 1)) < (l1.length : Int)) = false := decide_eq_false c3
    clear c3
    obtain rfl := Option.some.inj H
    go_wp2
    go_ret
    exact ⟨by first | rfl | (simp; done) | (simp [*]; done), by repeat (first | exact Drawn0.refl _ | apply Drawn0.step)⟩

/-! ### copyistref01_Width: function 57 -/
def copyistref01_Width.j0 : Nat → Int → List Int → Bool → Option (Int)
 | 0, _, _, _ => none
 | k + 1, x0, x4, x7 => if x7 = true then (some 0) else ((copyistref01_in.f k x0 x4).bind fun t193 => (if t193 = true then (some 2) else (some 1)))
def copyistref01_Width.f (k : Nat) (a0 : Int) : Option (Int) := (some (([0, 8, 10, 31, 127, 127, 4352, 4447, 11904, 12350, 12353, 42191, 44032, 55203, 63744, 64255, 65072, 65135, 65280, 65376, 65504, 65510, 127744, 128591, 129280, 129535, 131072, 262141] : List Int) : List Int)).bind fun y188 => ((copyistref01_Is.f a0).bind fun t191 => (if t191 = true then ((copyistref01_in.f k a0 (([768, 879, 1155, 1161, 1425, 1469, 8203, 8207, 8400, 8447, 65024, 65039, 65056, 65071] : List Int))).bind fun t192 => (copyistref01_Width.j0 k a0 y188 t192)) else (copyistref01_Width.j0 k a0 y188 true)))
theorem copyistref01_Width.mono_l : ∀ k, (∀ y0 y1 y2, LeO (copyistref01_Width.j0 k y0 y1 y2) (copyistref01_Width.j0 (k + 1) y0 y1 y2))
 | 0 => fun _ _ _ r h => by simp [copyistref01_Width.j0] at h
 | k + 1 => by
  have ih0 := copyistref01_Width.mono_l k
  ·intro y0 y1 y2
   unfold copyistref01_Width.j0
   repeat' first
   | (with_reducible exact ih0 _ _ _)
   | (with_reducible exact copyistref01_in.mono _ _ _)
   | (with_reducible exact LeO.refl _)
   | (with_reducible exact LeO.none _)
   | (with_reducible refine LeO.ite ?_ ?_)
   | (with_reducible refine LeO.bind ?_ (fun _ => ?_))
   | exact ih0 _ _ _
   | exact copyistref01_in.mono _ _ _
   | exact LeO.none _
   | refine LeO.ite ?_ ?_
   | refine LeO.bind ?_ (fun _ => ?_)
theorem copyistref01_Width.mono : ∀ a0 k, LeO (copyistref01_Width.f k a0) (copyistref01_Width.f (k + 1) a0) := by
 intro a0 k
 have ih0 := copyistref01_Width.mono_l k
 unfold copyistref01_Width.f
 repeat' first
   | (with_reducible exact ih0 _ _ _)
   | (with_reducible exact copyistref01_in.mono _ _ _)
   | (with_reducible exact LeO.refl _)
   | (with_reducible exact LeO.none _)
   | (with_reducible refine LeO.ite ?_ ?_)
   | (with_reducible refine LeO.bind ?_ (fun _ => ?_))
   | exact ih0 _ _ _
   | exact copyistref01_in.mono _ _ _
   | exact LeO.none _
   | refine LeO.ite ?_ ?_
   | refine LeO.bind ?_ (fun _ => ?_)
set_option maxHeartbeats 8000000 in
set_option maxRecDepth 100000 in
theorem copyistref01_Width.calls (k : Nat) (a0 : Int) (r : Int) (w : World) (h : copyistref01_Width.f k a0 = some r) :
  Calls Tryd.prog 57 #[.int .i64 a0] w fun e w' => e = .returned (.int .i64 r) ∧ Below w.heap.size w w' := by
 have HB := Aside0.mk (Below.refl w.heap.size w)
 have H : ((some (([0, 8, 10, 31, 127, 127, 4352, 4447, 11904, 12350, 12353, 42191, 44032, 55203, 63744, 64255, 65072, 65135, 65280, 65376, 65504, 65510, 127744, 128591, 129280, 129535, 131072, 262141] : List Int) : List Int)).bind fun y188 => ((copyistref01_Is.f a0).bind fun t191 => (if t191 = true then ((copyistref01_in.f k a0 (([768, 879, 1155, 1161, 1425, 1469, 8203, 8207, 8400, 8447, 65024, 65039, 65056, 65071] : List Int))).bind fun t192 => (copyistref01_Width.j0 k a0 y188 t192)) else (copyistref01_Width.j0 k a0 y188 true)))) = some r := h
 clear h
 obtain ⟨y185, hy185⟩ : ∃ y_ : List Int, y_ = (([768, 879, 1155, 1161, 1425, 1469, 8203, 8207, 8400, 8447, 65024, 65039, 65056, 65071] : List Int)) := ⟨_, rfl⟩
 replace H : ((some (([0, 8, 10, 31, 127, 127, 4352, 4447, 11904, 12350, 12353, 42191, 44032, 55203, 63744, 64255, 65072, 65135, 65280, 65376, 65504, 65510, 127744, 128591, 129280, 129535, 131072, 262141] : List Int) : List Int)).bind fun y188 => ((copyistref01_Is.f a0).bind fun t191 => (if t191 = true then ((copyistref01_in.f k a0 y185).bind fun t192 => (copyistref01_Width.j0 k a0 y188 t192)) else (copyistref01_Width.j0 k a0 y188 true)))) = some r := by first | (rw [hy185]; with_reducible exact H) | (have H2_ := (Option.bind_some _ _).symm.trans H; rw [hy185]; with_reducible exact H2_) | (have H2_ := (Option.bind_some _ _).symm.trans H; with_reducible exact H2_) | with_reducible exact H | (rw [hy185]; exact H) | exact H
 have Ny185 := Aside0.mk hy185
 clear hy185
 obtain ⟨y188, hy188⟩ : ∃ y_ : List Int, y_ = (([0, 8, 10, 31, 127, 127, 4352, 4447, 11904, 12350, 12353, 42191, 44032, 55203, 63744, 64255, 65072, 65135, 65280, 65376, 65504, 65510, 127744, 128591, 129280, 129535, 131072, 262141] : List Int)) := ⟨_, rfl⟩
 replace H : ((copyistref01_Is.f a0).bind fun t191 => (if t191 = true then ((copyistref01_in.f k a0 y185).bind fun t192 => (copyistref01_Width.j0 k a0 y188 t192)) else (copyistref01_Width.j0 k a0 y188 true))) = some r := by first | (rw [hy188]; with_reducible exact H) | (have H2_ := (Option.bind_some _ _).symm.trans H; rw [hy188]; with_reducible exact H2_) | (have H2_ := (Option.bind_some _ _).symm.trans H; with_reducible exact H2_) | with_reducible exact H | (rw [hy188]; exact H) | exact H
 have Ny188 := Aside0.mk hy188
 clear hy188
 have HC2 := Aside0.mk H
 clear H
 go_enter Tryd.func57, Tryd.ntmps57
 go_upto_region 3 with (first | ((with_reducible refine gate_dst (N := 5) rfl ?_); refine Kd.R_lit (Kd.int .i64) _ 3 ?hg (N := 5) ?hd (xs := ([768, 879, 1155, 1161, 1425, 1469, 8203, 8207, 8400, 8447, 65024, 65039, 65056, 65071] : List Int)) (inner := [.int .i64 768, .int .i64 879, .int .i64 1155, .int .i64 1161, .int .i64 1425, .int .i64 1469, .int .i64 8203, .int .i64 8207, .int .i64 8400, .int .i64 8447, .int .i64 65024, .int .i64 65039, .int .i64 65056, .int .i64 65071]) (ok := fun _ => True) (okp := fun _ => True) ?hr ?hp (fun _ hk => hk) trivial (Below.refl _ _) (Nat.le_refl _) (by simp) ?_; (case hd => rfl); (case hg => rfl); (case hr => first | (go_simp; done) | (go_simp; rfl)); (case hp => exact (Reps.one (show Kd.M (Kd.int .i64) _ _ _ 768 [.int .i64 768] from rfl) (Reps.one (show Kd.M (Kd.int .i64) _ _ _ 879 [.int .i64 879] from rfl) (Reps.one (show Kd.M (Kd.int .i64) _ _ _ 1155 [.int .i64 1155] from rfl) (Reps.one (show Kd.M (Kd.int .i64) _ _ _ 1161 [.int .i64 1161] from rfl) (Reps.one (show Kd.M (Kd.int .i64) _ _ _ 1425 [.int .i64 1425] from rfl) (Reps.one (show Kd.M (Kd.int .i64) _ _ _ 1469 [.int .i64 1469] from rfl) (Reps.one (show Kd.M (Kd.int .i64) _ _ _ 8203 [.int .i64 8203] from rfl) (Reps.one (show Kd.M (Kd.int .i64) _ _ _ 8207 [.int .i64 8207] from rfl) (Reps.one (show Kd.M (Kd.int .i64) _ _ _ 8400 [.int .i64 8400] from rfl) (Reps.one (show Kd.M (Kd.int .i64) _ _ _ 8447 [.int .i64 8447] from rfl) (Reps.one (show Kd.M (Kd.int .i64) _ _ _ 65024 [.int .i64 65024] from rfl) (Reps.one (show Kd.M (Kd.int .i64) _ _ _ 65039 [.int .i64 65039] from rfl) (Reps.one (show Kd.M (Kd.int .i64) _ _ _ 65056 [.int .i64 65056] from rfl) (Reps.one (show Kd.M (Kd.int .i64) _ _ _ 65071 [.int .i64 65071] from rfl) (Reps.none _ _)))))))))))))))); intro v186 w3 ho4 hb hg_ hnew_; clear hg_ hnew_; (first | rw [← Ny185.out] at ho4 | (simp only [Int.reduceToNat] at ho4; rw [← Ny185.out] at ho4)); have n0_ := Aside0.mk (Kd.R_lower ho4 (below_size (by repeat (first | (with_reducible first | exact HB.out | apply below_alloc | apply pw_below_drewN | apply below_drew1) | exact HB.out)))); have n1_ := Aside0.mk (below_step (by repeat (first | (with_reducible first | exact HB.out | apply below_alloc | apply pw_below_drewN | apply below_drew1) | exact HB.out)) hb); clear HB; have HO187 := n0_; have HB := n1_; clear n0_ n1_; clear hb ho4) | ((with_reducible refine gate_dst (N := 6) rfl ?_); refine Kd.R_lit (Kd.int .i64) _ 3 ?hg (N := 6) ?hd (xs := ([0, 8, 10, 31, 127, 127, 4352, 4447, 11904, 12350, 12353, 42191, 44032, 55203, 63744, 64255, 65072, 65135, 65280, 65376, 65504, 65510, 127744, 128591, 129280, 129535, 131072, 262141] : List Int)) (inner := [.int .i64 0, .int .i64 8, .int .i64 10, .int .i64 31, .int .i64 127, .int .i64 127, .int .i64 4352, .int .i64 4447, .int .i64 11904, .int .i64 12350, .int .i64 12353, .int .i64 42191, .int .i64 44032, .int .i64 55203, .int .i64 63744, .int .i64 64255, .int .i64 65072, .int .i64 65135, .int .i64 65280, .int .i64 65376, .int .i64 65504, .int .i64 65510, .int .i64 127744, .int .i64 128591, .int .i64 129280, .int .i64 129535, .int .i64 131072, .int .i64 262141]) (ok := fun _ => True) (okp := fun _ => True) ?hr ?hp (fun _ hk => hk) trivial (Below.refl _ _) (Nat.le_refl _) (by simp) ?_; (case hd => rfl); (case hg => rfl); (case hr => first | (go_simp; done) | (go_simp; rfl)); (case hp => exact (Reps.one (show Kd.M (Kd.int .i64) _ _ _ 0 [.int .i64 0] from rfl) (Reps.one (show Kd.M (Kd.int .i64) _ _ _ 8 [.int .i64 8] from rfl) (Reps.one (show Kd.M (Kd.int .i64) _ _ _ 10 [.int .i64 10] from rfl) (Reps.one (show Kd.M (Kd.int .i64) _ _ _ 31 [.int .i64 31] from rfl) (Reps.one (show Kd.M (Kd.int .i64) _ _ _ 127 [.int .i64 127] from rfl) (Reps.one (show Kd.M (Kd.int .i64) _ _ _ 127 [.int .i64 127] from rfl) (Reps.one (show Kd.M (Kd.int .i64) _ _ _ 4352 [.int .i64 4352] from rfl) (Reps.one (show Kd.M (Kd.int .i64) _ _ _ 4447 [.int .i64 4447] from rfl) (Reps.one (show Kd.M (Kd.int .i64) _ _ _ 11904 [.int .i64 11904] from rfl) (Reps.one (show Kd.M (Kd.int .i64) _ _ _ 12350 [.int .i64 12350] from rfl) (Reps.one (show Kd.M (Kd.int .i64) _ _ _ 12353 [.int .i64 12353] from rfl) (Reps.one (show Kd.M (Kd.int .i64) _ _ _ 42191 [.int .i64 42191] from rfl) (Reps.one (show Kd.M (Kd.int .i64) _ _ _ 44032 [.int .i64 44032] from rfl) (Reps.one (show Kd.M (Kd.int .i64) _ _ _ 55203 [.int .i64 55203] from rfl) (Reps.one (show Kd.M (Kd.int .i64) _ _ _ 63744 [.int .i64 63744] from rfl) (Reps.one (show Kd.M (Kd.int .i64) _ _ _ 64255 [.int .i64 64255] from rfl) (Reps.one (show Kd.M (Kd.int .i64) _ _ _ 65072 [.int .i64 65072] from rfl) (Reps.one (show Kd.M (Kd.int .i64) _ _ _ 65135 [.int .i64 65135] from rfl) (Reps.one (show Kd.M (Kd.int .i64) _ _ _ 65280 [.int .i64 65280] from rfl) (Reps.one (show Kd.M (Kd.int .i64) _ _ _ 65376 [.int .i64 65376] from rfl) (Reps.one (show Kd.M (Kd.int .i64) _ _ _ 65504 [.int .i64 65504] from rfl) (Reps.one (show Kd.M (Kd.int .i64) _ _ _ 65510 [.int .i64 65510] from rfl) (Reps.one (show Kd.M (Kd.int .i64) _ _ _ 127744 [.int .i64 127744] from rfl) (Reps.one (show Kd.M (Kd.int .i64) _ _ _ 128591 [.int .i64 128591] from rfl) (Reps.one (show Kd.M (Kd.int .i64) _ _ _ 129280 [.int .i64 129280] from rfl) (Reps.one (show Kd.M (Kd.int .i64) _ _ _ 129535 [.int .i64 129535] from rfl) (Reps.one (show Kd.M (Kd.int .i64) _ _ _ 131072 [.int .i64 131072] from rfl) (Reps.one (show Kd.M (Kd.int .i64) _ _ _ 262141 [.int .i64 262141] from rfl) (Reps.none _ _)))))))))))))))))))))))))))))); intro v189 w5 ho6 hb hg_ hnew_; clear hg_ hnew_; (first | rw [← Ny188.out] at ho6 | (simp only [Int.reduceToNat] at ho6; rw [← Ny188.out] at ho6)); have n0_ := Aside0.mk (Kd.R_elder' (by (with_reducible repeat (first | apply Kd.R_alloc | apply Kd.R_drewN | apply Kd.R_drew)); exact HO187.out) (Kd.R_base ho6) hb); have n1_ := Aside0.mk (Kd.R_lower (Kd.R_new' ho6 (Kd.R_lt (by (with_reducible repeat (first | apply Kd.R_alloc | apply Kd.R_drewN | apply Kd.R_drew)); exact HO187.out))) (below_size (by repeat (first | (with_reducible first | exact HB.out | apply below_alloc | apply pw_below_drewN | apply below_drew1) | exact HB.out)))); have n2_ := Aside0.mk (below_step (by repeat (first | (with_reducible first | exact HB.out | apply below_alloc | apply pw_below_drewN | apply below_drew1) | exact HB.out)) hb); clear HO187; clear HB; have HO187 := n0_; have HO190 := n1_; have HB := n2_; clear n0_ n1_ n2_; clear hb ho6))
 (try simp only [Act.put, List.setIfInBounds_toArray, List.set_cons_zero, List.set_cons_succ])
 go_cut [7] (fun v7 wc => ∃ (kq : Nat) (x7_1 : Bool), v7 = .bool x7_1 ∧ Aside0 (copyistref01_Width.j0 kq a0 y188 x7_1 = some r) ∧ Aside0 (kq ≤ k) ∧ Aside0 (Kd.R (Kd.int .i64) 3 wc w.heap.size (fun _ => True) v189 y188) ∧ Aside0 (Below w.heap.size w wc))
 case first =>
  have H := HC2.out
  clear HC2
  replace H := Option.bind_eq_some_iff.mp H
  obtain ⟨t191, A70, H⟩ := H
  replace H : (if t191 = true then ((copyistref01_in.f k a0 y185).bind fun t192 => (copyistref01_Width.j0 k a0 y188 t192)) else (copyistref01_Width.j0 k a0 y188 true)) = some r := H
  have A7 := Aside0.mk A70
  clear A70
  by_cases c8 : t191 = true
  ·subst c8
   have H1 : ((copyistref01_in.f k a0 y185).bind fun t192 => (copyistref01_Width.j0 k a0 y188 t192)) = some r := by rw [if_pos rfl] at H; exact H
   clear H
   have H := H1
   clear H1
   replace H := Option.bind_eq_some_iff.mp H
   obtain ⟨t192, A90, H⟩ := H
   replace H : (copyistref01_Width.j0 k a0 y188 t192) = some r := H
   have A9 := Aside0.mk A90
   clear A90
   have H' := Aside0.mk H
   clear H
   go_wp2_with (first | ((with_reducible refine gate_callee (f := 69) rfl ?_); refine goesL_ (some 9) rfl rfl Tryd.func69 (by kernel_rfl) rfl #[.int .i64 a0] rfl (by (try simp only [List.map_toArray, List.map_cons, List.map_nil]); first | done | rfl | (simp only [List.length_drop, List.length_take]; rfl)) ?_; (with_reducible refine (copyistref01_Is.calls a0 true _ A7.out).mono ?_); rintro e w' ⟨rfl, ⟨nd, rfl⟩⟩; refine ⟨_, rfl, ?_⟩; obtain ⟨Ao10, co10, eo10⟩ := Kd.R_slice HO187.out; subst eo10) | (go_at_call 70; (with_reducible refine (copyistref01_in.calls k a0 _ _ y185 t192 _ ?side1 ?side2 A9.out).mono ?_); (case side1 => repeat (first | exact (Kd.R_reads' HO187.out).2.2 | (with_reducible refine Kd.C_alloc ?_ _) | (with_reducible refine Kd.C_drewN ?_ _) | (with_reducible refine Kd.C_drew ?_))); (case side2 => exact (Kd.R_reads' HO187.out).2.1); rintro e w' ⟨rfl, ⟨nd, rfl⟩⟩))
   go_meet
   case rel => exact ⟨_, (t192), (by first | rfl | (simp; done) | (simp [*]; done)), H', ⟨by first | omega | exact Nat.le_refl _⟩, ⟨by (with_reducible repeat (first | apply Kd.R_alloc | apply Kd.R_drewN | apply Kd.R_drew)); exact Kd.R_mono HO190.out (fun _ hk => trivial)⟩, ⟨by repeat (first | (with_reducible first | exact HB.out | apply below_alloc | apply pw_below_drewN | apply below_drew1) | exact HB.out)⟩⟩
  ·replace c8 := Bool.eq_false_iff.mpr c8
   subst c8
   have H1 : (copyistref01_Width.j0 k a0 y188 true) = some r := by rw [if_neg (show ¬ (false = true) by decide)] at H; exact H
   clear H
   have H := H1
   clear H1
   have H' := Aside0.mk H
   clear H
   go_wp2_with (first | ((with_reducible refine gate_callee (f := 69) rfl ?_); refine goesL_ (some 9) rfl rfl Tryd.func69 (by kernel_rfl) rfl #[.int .i64 a0] rfl (by (try simp only [List.map_toArray, List.map_cons, List.map_nil]); first | done | rfl | (simp only [List.length_drop, List.length_take]; rfl)) ?_; (with_reducible refine (copyistref01_Is.calls a0 false _ A7.out).mono ?_); rintro e w' ⟨rfl, ⟨nd, rfl⟩⟩; refine ⟨_, rfl, ?_⟩))
   go_meet
   case rel => exact ⟨_, (true), (by first | rfl | (simp; done) | (simp [*]; done)), H', ⟨by first | omega | exact Nat.le_refl _⟩, ⟨by (with_reducible repeat (first | apply Kd.R_alloc | apply Kd.R_drewN | apply Kd.R_drew)); exact Kd.R_mono HO190.out (fun _ hk => trivial)⟩, ⟨by repeat (first | (with_reducible first | exact HB.out | apply below_alloc | apply pw_below_drewN | apply below_drew1) | exact HB.out)⟩⟩
 case rest =>
  clear HC2
  try clear p2
  try clear c5
  try clear c6
  try clear c8
  obtain ⟨kq, x7_1, rfl, HA, HJ1, HO_4, HB⟩ := hcut
  cases kq with
  | zero => exact absurd HA.out (by simp [copyistref01_Width.j0])
  | succ kj1 =>
   have H := HA.out
   clear HA
   simp only [copyistref01_Width.j0] at H
   by_cases c11 : x7_1 = true
   ·subst c11
    have H1 : (some 0) = some r := by rw [if_pos rfl] at H; exact H
    clear H
    have H := H1
    clear H1
    obtain rfl := Option.some.inj H
    go_wp2
    go_ret
    exact ⟨by first | rfl | (simp [errW_none, errW_some] <;> rfl) | (simp [*, errW_none, errW_some] <;> rfl), by repeat (first | (with_reducible first | exact HB.out | apply below_alloc | apply pw_below_drewN | apply below_drew1) | exact HB.out)⟩
   ·replace c11 := Bool.eq_false_iff.mpr c11
    subst c11
    have H1 : ((copyistref01_in.f kj1 a0 y188).bind fun t193 => (if t193 = true then (some 2) else (some 1))) = some r := by rw [if_neg (show ¬ (false = true) by decide)] at H; exact H
    clear H
    have H := H1
    clear H1
    replace H := Option.bind_eq_some_iff.mp H
    obtain ⟨t193, A120, H⟩ := H
    replace H : (if t193 = true then (some 2) else (some 1)) = some r := H
    have A12 := Aside0.mk A120
    clear A120
    by_cases c13 : t193 = true
    ·subst c13
     have H1 : (some 2) = some r := by rw [if_pos rfl] at H; exact H
     clear H
     have H := H1
     clear H1
     obtain rfl := Option.some.inj H
     obtain ⟨Ao14, co14, eo14⟩ := Kd.R_slice HO_4.out
     subst eo14
     go_wp2_with (first | ((with_reducible refine gate_callee (f := 70) rfl ?_); refine goesL_ (some 19) rfl rfl Tryd.func70 (by kernel_rfl) rfl #[.int .i64 a0, .slice Ao14 y188.length co14] rfl (by (try simp only [List.map_toArray, List.map_cons, List.map_nil]); first | done | rfl | (simp only [List.length_drop, List.length_take]; rfl)) ?_; (with_reducible refine (copyistref01_in.calls kj1 a0 _ _ y188 true _ ?side1 ?side2 A12.out).mono ?_); (case side1 => repeat (first | exact (Kd.R_reads' HO_4.out).2.2 | (with_reducible refine Kd.C_alloc ?_ _) | (with_reducible refine Kd.C_drewN ?_ _) | (with_reducible refine Kd.C_drew ?_))); (case side2 => exact (Kd.R_reads' HO_4.out).2.1); rintro e w' ⟨rfl, ⟨nd, rfl⟩⟩; refine ⟨_, rfl, ?_⟩))
     go_ret
     exact ⟨by first | rfl | (simp [errW_none, errW_some] <;> rfl) | (simp [*, errW_none, errW_some] <;> rfl), by repeat (first | (with_reducible first | exact HB.out | apply below_alloc | apply pw_below_drewN | apply below_drew1) | exact HB.out)⟩
    ·replace c13 := Bool.eq_false_iff.mpr c13
     subst c13
     have H1 : (some 1) = some r := by rw [if_neg (show ¬ (false = true) by decide)] at H; exact H
     clear H
     have H := H1
     clear H1
     obtain rfl := Option.some.inj H
     obtain ⟨Ao15, co15, eo15⟩ := Kd.R_slice HO_4.out
     subst eo15
     go_wp2_with (first | ((with_reducible refine gate_callee (f := 70) rfl ?_); refine goesL_ (some 19) rfl rfl Tryd.func70 (by kernel_rfl) rfl #[.int .i64 a0, .slice Ao15 y188.length co15] rfl (by (try simp only [List.map_toArray, List.map_cons, List.map_nil]); first | done | rfl | (simp only [List.length_drop, List.length_take]; rfl)) ?_; (with_reducible refine (copyistref01_in.calls kj1 a0 _ _ y188 false _ ?side1 ?side2 A12.out).mono ?_); (case side1 => repeat (first | exact (Kd.R_reads' HO_4.out).2.2 | (with_reducible refine Kd.C_alloc ?_ _) | (with_reducible refine Kd.C_drewN ?_ _) | (with_reducible refine Kd.C_drew ?_))); (case side2 => exact (Kd.R_reads' HO_4.out).2.1); rintro e w' ⟨rfl, ⟨nd, rfl⟩⟩; refine ⟨_, rfl, ?_⟩))
     go_ret
     exact ⟨by first | rfl | (simp [errW_none, errW_some] <;> rfl) | (simp [*, errW_none, errW_some] <;> rfl), by repeat (first | (with_reducible first | exact HB.out | apply below_alloc | apply pw_below_drewN | apply below_drew1) | exact HB.out)⟩

/-! ### copyistref35_one: function 37 -/
mutual
def copyistref35_one.l0 : Nat → Int → Int → Int → List (S72) → Int → Int → Int → Bool → Bool → Bool → Option ((List (S72)))
 | 0, _, _, _, _, _, _, _, _, _, _ => none
 | k + 1, x1, x2, x3, x11, x12, x195000, x195001, x195002, x195003, x195004 => if x12 = x1 then (if x11.length < 3518437208883 then (copyistref35_one.l0 k x1 x2 x3 (x11 ++ [(⟨(([(⟨32, (⟨x195000, x195001, x195002, x195003, x195004⟩ : S53)⟩ : S78)] : List (S78))), x3, false⟩ : S72)]) (wrap64 (x12 + 1)) x195000 x195001 x195002 x195003 x195004) else (none)) else (if x2 = 0 then (none) else (if (Int.tmod x12 x2) = 0 then (some x11) else (if x11.length < 3518437208883 then (copyistref35_one.l0 k x1 x2 x3 (x11 ++ [(⟨(([(⟨32, (⟨x195000, x195001, x195002, x195003, x195004⟩ : S53)⟩ : S78)] : List (S78))), x3, false⟩ : S72)]) (wrap64 (x12 + 1)) x195000 x195001 x195002 x195003 x195004) else (none))))
def copyistref35_one.j1 : Nat → Int → Int → Bool → Int → Int → Bool → Bool → Bool → Option ((List (S72)))
 | 0, _, _, _, _, _, _, _, _ => none
 | k + 1, x0, x3, x43, x195000, x195001, x195002, x195003, x195004 => if x43 = true then (some (([(⟨(([(⟨94, (⟨x195000, x195001, x195002, x195003, x195004⟩ : S53)⟩ : S78), (⟨Go.bits .xor .i64 x0 64, (⟨x195000, x195001, x195002, x195003, x195004⟩ : S53)⟩ : S78)] : List (S78))), x3, false⟩ : S72)] : List (S72)))) else ((copyistref01_Width.f k x0).bind fun t216 => (if t216 = 0 then (some ([] : List (S72))) else ((copyistref01_Width.f k x0).bind fun t217 => (if t217 = 2 then (some (([(⟨(([(⟨x0, (⟨x195000, x195001, x195002, x195003, x195004⟩ : S53)⟩ : S78), (⟨(-1), (⟨x195000, x195001, x195002, x195003, x195004⟩ : S53)⟩ : S78)] : List (S78))), x3, false⟩ : S72)] : List (S72)))) else (some (([(⟨(([(⟨x0, (⟨x195000, x195001, x195002, x195003, x195004⟩ : S53)⟩ : S78)] : List (S78))), x3, false⟩ : S72)] : List (S72))))))))
end
def copyistref35_one.f (k : Nat) (a0 : Int) (a1 : Int) (a2 : Int) (a3 : Int) (a4_0 : Int) (a4_1 : Int) (a4_2 : Bool) (a4_3 : Bool) (a4_4 : Bool) : Option ((List (S72))) := if a0 = 10 then (some (([(⟨([] : List (S78)), a3, true⟩ : S72)] : List (S72)))) else (if a0 = 9 then (copyistref35_one.l0 k a1 a2 a3 ([] : List (S72)) a1 a4_0 a4_1 a4_2 a4_3 a4_4) else (if a0 < 32 then (copyistref35_one.j1 k a0 a3 true a4_0 a4_1 a4_2 a4_3 a4_4) else (copyistref35_one.j1 k a0 a3 (a0 == 127) a4_0 a4_1 a4_2 a4_3 a4_4)))
theorem copyistref35_one.mono_l : ∀ k, (∀ y0 y1 y2 y3 y4 y5 y6 y7 y8 y9, LeO (copyistref35_one.l0 k y0 y1 y2 y3 y4 y5 y6 y7 y8 y9) (copyistref35_one.l0 (k + 1) y0 y1 y2 y3 y4 y5 y6 y7 y8 y9)) ∧ (∀ y0 y1 y2 y3 y4 y5 y6 y7, LeO (copyistref35_one.j1 k y0 y1 y2 y3 y4 y5 y6 y7) (copyistref35_one.j1 (k + 1) y0 y1 y2 y3 y4 y5 y6 y7))
 | 0 => ⟨fun _ _ _ _ _ _ _ _ _ _ r h => by simp [copyistref35_one.l0] at h, fun _ _ _ _ _ _ _ _ r h => by simp [copyistref35_one.j1] at h⟩
 | k + 1 => by
  obtain ⟨ih0, ih1⟩ := copyistref35_one.mono_l k
  refine ⟨?_, ?_⟩
  ·intro y0 y1 y2 y3 y4 y5 y6 y7 y8 y9
   unfold copyistref35_one.l0
   repeat' first
   | (with_reducible exact ih0 _ _ _ _ _ _ _ _ _ _)
   | (with_reducible exact ih1 _ _ _ _ _ _ _ _)
   | (with_reducible exact copyistref01_Width.mono _ _)
   | (with_reducible exact LeO.refl _)
   | (with_reducible exact LeO.none _)
   | (with_reducible refine LeO.ite ?_ ?_)
   | (with_reducible refine LeO.bind ?_ (fun _ => ?_))
   | exact ih0 _ _ _ _ _ _ _ _ _ _
   | exact ih1 _ _ _ _ _ _ _ _
   | exact copyistref01_Width.mono _ _
   | exact LeO.none _
   | refine LeO.ite ?_ ?_
   | refine LeO.bind ?_ (fun _ => ?_)
  ·intro y0 y1 y2 y3 y4 y5 y6 y7
   unfold copyistref35_one.j1
   repeat' first
   | (with_reducible exact ih0 _ _ _ _ _ _ _ _ _ _)
   | (with_reducible exact ih1 _ _ _ _ _ _ _ _)
   | (with_reducible exact copyistref01_Width.mono _ _)
   | (with_reducible exact LeO.refl _)
   | (with_reducible exact LeO.none _)
   | (with_reducible refine LeO.ite ?_ ?_)
   | (with_reducible refine LeO.bind ?_ (fun _ => ?_))
   | exact ih0 _ _ _ _ _ _ _ _ _ _
   | exact ih1 _ _ _ _ _ _ _ _
   | exact copyistref01_Width.mono _ _
   | exact LeO.none _
   | refine LeO.ite ?_ ?_
   | refine LeO.bind ?_ (fun _ => ?_)
theorem copyistref35_one.mono : ∀ a0 a1 a2 a3 a4 a5 a6 a7 a8 k, LeO (copyistref35_one.f k a0 a1 a2 a3 a4 a5 a6 a7 a8) (copyistref35_one.f (k + 1) a0 a1 a2 a3 a4 a5 a6 a7 a8) := by
 intro a0 a1 a2 a3 a4 a5 a6 a7 a8 k
 obtain ⟨ih0, ih1⟩ := copyistref35_one.mono_l k
 unfold copyistref35_one.f
 repeat' first
   | (with_reducible exact ih0 _ _ _ _ _ _ _ _ _ _)
   | (with_reducible exact ih1 _ _ _ _ _ _ _ _)
   | (with_reducible exact copyistref01_Width.mono _ _)
   | (with_reducible exact LeO.refl _)
   | (with_reducible exact LeO.none _)
   | (with_reducible refine LeO.ite ?_ ?_)
   | (with_reducible refine LeO.bind ?_ (fun _ => ?_))
   | exact ih0 _ _ _ _ _ _ _ _ _ _
   | exact ih1 _ _ _ _ _ _ _ _
   | exact copyistref01_Width.mono _ _
   | exact LeO.none _
   | refine LeO.ite ?_ ?_
   | refine LeO.bind ?_ (fun _ => ?_)
set_option maxHeartbeats 8000000 in
set_option maxRecDepth 100000 in
theorem copyistref35_one.calls (k : Nat) (a0 : Int) (a1 : Int) (a2 : Int) (a3 : Int) (a4_0 : Int) (a4_1 : Int) (a4_2 : Bool) (a4_3 : Bool) (a4_4 : Bool) (r : List (S72)) (w : World) (h : copyistref35_one.f k a0 a1 a2 a3 a4_0 a4_1 a4_2 a4_3 a4_4 = some r) :
  Calls Tryd.prog 37 #[.int .i64 a0, .int .i64 a1, .int .i64 a2, .int .i64 a3, .agg #[.int .i64 a4_0, .int .i64 a4_1, .bool a4_2, .bool a4_3, .bool a4_4]] w fun e w' => ∃ v0_ : Value, e = .returned (v0_) ∧ Kd.N k72 72 w' w.heap.size (fun k_ => (w.heap.size ≤ k_)) v0_ r ∧ Below w.heap.size w w' := by
 have hu53 := Tryd.underlying53
 have hu72 := Tryd.underlying72
 have hu78 := Tryd.underlying78
 have HB := Aside0.mk (Below.refl w.heap.size w)
 have H : (if a0 = 10 then (some (([(⟨([] : List (S78)), a3, true⟩ : S72)] : List (S72)))) else (if a0 = 9 then (copyistref35_one.l0 k a1 a2 a3 ([] : List (S72)) a1 a4_0 a4_1 a4_2 a4_3 a4_4) else (if a0 < 32 then (copyistref35_one.j1 k a0 a3 true a4_0 a4_1 a4_2 a4_3 a4_4) else (copyistref35_one.j1 k a0 a3 (a0 == 127) a4_0 a4_1 a4_2 a4_3 a4_4)))) = some r := h
 clear h
 by_cases c6 : a0 = 10
 ·rw [if_pos c6] at H
  have c6b0 : (a0 == 10) = true := beq_iff_eq.mpr c6
  have c6b1 : (a0 != 10) = false := bne_eq_false_iff_eq.mpr c6
  clear c6
  obtain ⟨y195, hy195⟩ : ∃ y_ : List (S72), y_ = (([(⟨([] : List (S78)), a3, true⟩ : S72)] : List (S72))) := ⟨_, rfl⟩
  replace H : (some y195) = some r := by first | (rw [hy195]; with_reducible exact H) | (have H2_ := (Option.bind_some _ _).symm.trans H; rw [hy195]; with_reducible exact H2_) | (have H2_ := (Option.bind_some _ _).symm.trans H; with_reducible exact H2_) | with_reducible exact H | (rw [hy195]; exact H) | exact H
  have Ny195 := Aside0.mk hy195
  clear hy195
  obtain rfl := Option.some.inj H
  go_enter Tryd.func37, Tryd.ntmps37
  go_wp2_with (first | ((with_reducible refine gate_dst (N := 9) rfl ?_); refine box_event ?hg (N := 9) ?hd (cs := #[.int .i64 a4_0, .int .i64 a4_1, .bool a4_2, .bool a4_3, .bool a4_4]) (t := 53) ?hr ?_; (case hd => rfl); (case hg => rfl); (case hr => first | (go_simp; done) | (go_simp; rfl)); intro gb194 hg w7 hbox hb; have n0_ := Aside0.mk (below_step (by repeat (first | (with_reducible first | exact HB.out | apply below_alloc | apply pw_below_drewN | apply below_drew1) | exact HB.out)) hb); have n1_ := Aside0.mk (hbox); have n2_ := Aside0.mk ((by rw [hg]; exact (below_size (by repeat (first | (with_reducible first | exact HB.out | apply below_alloc | apply pw_below_drewN | apply below_drew1) | exact HB.out))) : w.heap.size ≤ gb194)); have n3_ := Aside0.mk ((by rw [hg]; exact (below_size (by repeat (first | (with_reducible first | exact HB.out | apply below_alloc | apply pw_below_drewN | apply below_drew1) | exact HB.out))) : w.heap.size ≤ gb194)); clear HB; have HB := n0_; have BK194 := n1_; have GW194 := n2_; have GE194 := n3_; clear n0_ n1_ n2_ n3_; clear hb hbox hg) | ((with_reducible refine gate_dst (N := 18) rfl ?_); refine Kd.N_lit k72 _ 72 ?hg (N' := 18) ?hd (xs := ([(⟨([] : List (S78)), a3, true⟩ : S72)] : List (S72))) (inner := [.slice none 0 0, .int .i64 a3, .bool true]) (ok := (fun k_ => (w.heap.size ≤ k_) ∧ k_ ≠ gb194)) (okp := (fun k_ => (w.heap.size ≤ k_) ∧ k_ ≠ gb194)) ?hr ?hp (fun _ hk => hk) ((show ∀ k_, w7.heap.size ≤ k_ → (fun k_ => (w.heap.size ≤ k_) ∧ k_ ≠ gb194) k_ from fun k_ hk => ⟨(Nat.le_trans (below_size (by repeat (first | (with_reducible first | exact HB.out | apply below_alloc | apply pw_below_drewN | apply below_drew1 | refine below_set ?_ GE194.out) | exact HB.out))) hk), Kd.freshB (g := gb194) (o := .cells #[.int .i64 a4_0, .int .i64 a4_1, .bool a4_2, .bool a4_3, .bool a4_4] 53 (0, 0)) (by (with_reducible repeat (first | refine blk_drewN ?_ _ | refine blk_drew ?_ | refine blk_alloc ?_ _)); exact BK194.out) k_ hk⟩) _ (Nat.le_refl _)) (Below.refl _ _) (Nat.le_refl _) (by simp) ?_; (case hd => rfl); (case hg => rfl); (case hr => first | (go_simp; done) | (go_simp; rfl)); (case hp => exact (Reps.c3 (show Kd.FK k72 _ _ (⟨([] : List (S78)), a3, true⟩ : S72) [.slice none 0 0, .int .i64 a3, .bool true] from (k72_mkF _ _ (⟨([] : List (S78)), a3, true⟩ : S72) (Nat.le_refl _) (Kd.F_nil _ _ _))) (Reps.none _ _))); intro v196 w8 ho9 hb hg_ hnew_; clear hg_ hnew_; (first | rw [← Ny195.out] at ho9 | (simp only [Int.reduceToNat] at ho9; rw [← Ny195.out] at ho9)); have n0_ := Aside0.mk (Kd.N_lower ho9 (below_size (by repeat (first | (with_reducible first | exact HB.out | apply below_alloc | apply pw_below_drewN | apply below_drew1 | refine below_set ?_ GE194.out) | exact HB.out)))); have n1_ := Aside0.mk (blk_below (g := gb194) (o := .cells #[.int .i64 a4_0, .int .i64 a4_1, .bool a4_2, .bool a4_3, .bool a4_4] 53 (0, 0)) (by (with_reducible repeat (first | refine blk_drewN ?_ _ | refine blk_drew ?_ | refine blk_alloc ?_ _)); exact BK194.out) hb); have n2_ := Aside0.mk (below_step (by repeat (first | (with_reducible first | exact HB.out | apply below_alloc | apply pw_below_drewN | apply below_drew1 | refine below_set ?_ GE194.out) | exact HB.out)) hb); clear BK194; clear HB; have HO197 := n0_; have BK194 := n1_; have HB := n2_; clear n0_ n1_ n2_; clear hb ho9))
  go_ret
  exact ⟨_, by first | rfl | (simp [errW_none, errW_some] <;> rfl) | (simp [*, errW_none, errW_some] <;> rfl), by (with_reducible repeat (first | apply Kd.N_alloc | apply Kd.N_drewN | apply Kd.N_drew)); exact Kd.N_mono HO197.out (fun _ hk => hk.1), by repeat (first | (with_reducible first | exact HB.out | apply below_alloc | apply pw_below_drewN | apply below_drew1 | refine below_set ?_ GE194.out) | exact HB.out)⟩
 ·rw [if_neg c6] at H
  have c6b0 : (a0 == 10) = false := beq_eq_false_iff_ne.mpr c6
  have c6b1 : (a0 != 10) = true := bne_iff_ne.mpr c6
  by_cases c10 : a0 = 9
  ·rw [if_pos c10] at H
   have c10b0 : (a0 == 9) = true := beq_iff_eq.mpr c10
   have c10b1 : (a0 != 9) = false := bne_eq_false_iff_eq.mpr c10
   clear c10
   have H' := Aside0.mk H
   clear H
   go_enter Tryd.func37, Tryd.ntmps37
   go_wp2_with (first | ((with_reducible refine gate_dst (N := 9) rfl ?_); refine box_event ?hg (N := 9) ?hd (cs := #[.int .i64 a4_0, .int .i64 a4_1, .bool a4_2, .bool a4_3, .bool a4_4]) (t := 53) ?hr ?_; (case hd => rfl); (case hg => rfl); (case hr => first | (go_simp; done) | (go_simp; rfl)); intro gb194 hg w11 hbox hb; have n0_ := Aside0.mk (below_step (by repeat (first | (with_reducible first | exact HB.out | apply below_alloc | apply pw_below_drewN | apply below_drew1) | exact HB.out)) hb); have n1_ := Aside0.mk (hbox); have n2_ := Aside0.mk ((by rw [hg]; exact (below_size (by repeat (first | (with_reducible first | exact HB.out | apply below_alloc | apply pw_below_drewN | apply below_drew1) | exact HB.out))) : w.heap.size ≤ gb194)); have n3_ := Aside0.mk ((by rw [hg]; exact (below_size (by repeat (first | (with_reducible first | exact HB.out | apply below_alloc | apply pw_below_drewN | apply below_drew1) | exact HB.out))) : w.heap.size ≤ gb194)); clear HB; have HB := n0_; have BK194 := n1_; have GW194 := n2_; have GE194 := n3_; clear n0_ n1_ n2_ n3_; clear hb hbox hg))
   go_loopg [11, 12] k (fun kq v11 v12 w' => ∃ (x11_1 : List (S72)) (x12_1 : Int), v12 = .int .i64 x12_1 ∧ Aside0 (copyistref35_one.l0 kq a1 a2 a3 x11_1 x12_1 a4_0 a4_1 a4_2 a4_3 a4_4 = some r) ∧ Aside0 (kq ≤ k) ∧ Aside0 (Kd.N k72 72 w' w.heap.size (fun k_ => (w.heap.size ≤ k_) ∧ k_ ≠ gb194) v11 x11_1) ∧ Aside0 (w'.heap[gb194]? = some (.cells #[.int .i64 a4_0, .int .i64 a4_1, .bool a4_2, .bool a4_3, .bool a4_4] 53 (0, 0))) ∧ Aside0 (Below w.heap.size w w'))
   case atStart => exact ⟨(([] : List (S72))), (a1), (by first | rfl | (simp; done) | (simp [*]; done)), H', ⟨Nat.le_refl _⟩, ⟨by first | exact Kd.S_nil _ _ _ _ _ | exact Kd.N_nil _ _ _ _ _ | exact Kd.V_nil _ _ _ _ _ | exact Kd.Q_nil _ _ _ _ _ | exact Kd.R_nil _ _ _ _ _⟩, ⟨by (with_reducible repeat (first | refine blk_drewN ?_ _ | refine blk_drew ?_ | refine blk_alloc ?_ _)); exact BK194.out⟩, ⟨by repeat (first | (with_reducible first | exact HB.out | apply below_alloc | apply pw_below_drewN | apply below_drew1 | refine below_set ?_ GE194.out) | exact HB.out)⟩⟩
   case round =>
    clear H'
    try clear c1
    try clear p2
    try clear c3
    try clear c6
    try clear c6b0
    try clear c6b1
    try clear c10
    try clear c10b0
    try clear c10b1
    obtain ⟨x11_1, x12_1, rfl, HA, HK1, HO_11, BK194, HB⟩ := hrel
    cases gk with
    | zero => exact absurd HA.out (by simp [copyistref35_one.l0])
    | succ k1 =>
     have H := HA.out
     clear HA
     simp only [copyistref35_one.l0] at H
     by_cases c12 : x12_1 = a1
     ·rw [if_pos c12] at H
      have c12b0 : (x12_1 == a1) = true := beq_iff_eq.mpr c12
      have c12b1 : (x12_1 != a1) = false := bne_eq_false_iff_eq.mpr c12
      clear c12
      obtain ⟨y198, hy198⟩ : ∃ y_ : List (S78), y_ = (([(⟨32, (⟨a4_0, a4_1, a4_2, a4_3, a4_4⟩ : S53)⟩ : S78)] : List (S78))) := ⟨_, rfl⟩
      replace H : (if x11_1.length < 3518437208883 then (copyistref35_one.l0 k1 a1 a2 a3 (x11_1 ++ [(⟨y198, a3, false⟩ : S72)]) (wrap64 (x12_1 + 1)) a4_0 a4_1 a4_2 a4_3 a4_4) else (none)) = some r := by first | (rw [hy198]; with_reducible exact H) | (have H2_ := (Option.bind_some _ _).symm.trans H; rw [hy198]; with_reducible exact H2_) | (have H2_ := (Option.bind_some _ _).symm.trans H; with_reducible exact H2_) | with_reducible exact H | (rw [hy198]; exact H) | exact H
      have Ny198 := Aside0.mk hy198
      clear hy198
      by_cases c13 : x11_1.length < 3518437208883
      ·rw [if_pos c13] at H
       have LMc13 := Aside0.mk c13
       clear c13
       obtain ⟨y201, hy201⟩ : ∃ y_ : List (S72), y_ = (x11_1 ++ [(⟨y198, a3, false⟩ : S72)]) := ⟨_, rfl⟩
       replace H : (copyistref35_one.l0 k1 a1 a2 a3 y201 (wrap64 (x12_1 + 1)) a4_0 a4_1 a4_2 a4_3 a4_4) = some r := by first | (rw [hy201]; with_reducible exact H) | (have H2_ := (Option.bind_some _ _).symm.trans H; rw [hy201]; with_reducible exact H2_) | (have H2_ := (Option.bind_some _ _).symm.trans H; with_reducible exact H2_) | with_reducible exact H | (rw [hy201]; exact H) | exact H
       have Ny201 := Aside0.mk hy201
       clear hy201
       have H' := Aside0.mk H
       clear H
       have hcz14_0 : wr.cell? ⟨gb194, 0, none⟩ = some (.int .i64 a4_0) := (blk_cell BK194.out 0).trans rfl
       have hcz14_1 : wr.cell? ⟨gb194, 1, none⟩ = some (.int .i64 a4_1) := (blk_cell BK194.out 1).trans rfl
       have hcz14_2 : wr.cell? ⟨gb194, 2, none⟩ = some (.bool a4_2) := (blk_cell BK194.out 2).trans rfl
       have hcz14_3 : wr.cell? ⟨gb194, 3, none⟩ = some (.bool a4_3) := (blk_cell BK194.out 3).trans rfl
       have hcz14_4 : wr.cell? ⟨gb194, 4, none⟩ = some (.bool a4_4) := (blk_cell BK194.out 4).trans rfl
       have hfz14_0 := blk_frozen BK194.out 0
       have hfz14_1 := blk_frozen BK194.out 1
       have hfz14_2 := blk_frozen BK194.out 2
       have hfz14_3 := blk_frozen BK194.out 3
       have hfz14_4 := blk_frozen BK194.out 4
       go_wp2_with (first | ((with_reducible refine gate_dst (N := 37) rfl ?_); refine Kd.R_lit k78 _ 78 ?hg (N := 37) ?hd (xs := ([(⟨32, (⟨a4_0, a4_1, a4_2, a4_3, a4_4⟩ : S53)⟩ : S78)] : List (S78))) (inner := [.int .i64 32, .int .i64 a4_0, .int .i64 a4_1, .bool a4_2, .bool a4_3, .bool a4_4]) (ok := fun _ => True) (okp := fun _ => True) ?hr ?hp (fun _ hk => hk) trivial (Below.refl _ _) (Nat.le_refl _) (by simp) ?_; (case hd => rfl); (case hg => rfl); (case hr => first | (go_simp; done) | (go_simp; rfl)); (case hp => exact (Reps.c6 (show Kd.M k78 _ _ _ (⟨32, (⟨a4_0, a4_1, a4_2, a4_3, a4_4⟩ : S53)⟩ : S78) [.int .i64 32, .int .i64 a4_0, .int .i64 a4_1, .bool a4_2, .bool a4_3, .bool a4_4] from (k78_mkM _ _ _ (⟨32, (⟨a4_0, a4_1, a4_2, a4_3, a4_4⟩ : S53)⟩ : S78) )) (Reps.none _ _))); intro v199 w15 ho16 hb hg_ hnew_; clear hg_ hnew_; (first | rw [← Ny198.out] at ho16 | (simp only [Int.reduceToNat] at ho16; rw [← Ny198.out] at ho16)); have n0_ := Aside0.mk (Kd.N_elder' (by (with_reducible repeat (first | apply Kd.N_alloc | apply Kd.N_drewN | apply Kd.N_drew)); exact HO_11.out) (Kd.R_base ho16) hb); have n1_ := Aside0.mk (Kd.R_lower (Kd.R_newM (M := fun k_ => (w.heap.size ≤ k_)) ho16 (below_size (by repeat (first | (with_reducible first | exact HB.out | apply below_alloc | apply pw_below_drewN | apply below_drew1 | refine below_set ?_ GE194.out) | exact HB.out))) (fun k_ h_ => h_)) (below_size (by repeat (first | (with_reducible first | exact HB.out | apply below_alloc | apply pw_below_drewN | apply below_drew1 | refine below_set ?_ GE194.out) | exact HB.out)))); have n2_ := Aside0.mk (blk_below (g := gb194) (o := .cells #[.int .i64 a4_0, .int .i64 a4_1, .bool a4_2, .bool a4_3, .bool a4_4] 53 (0, 0)) (by (with_reducible repeat (first | refine blk_drewN ?_ _ | refine blk_drew ?_ | refine blk_alloc ?_ _)); exact BK194.out) hb); have n3_ := Aside0.mk (below_step (by repeat (first | (with_reducible first | exact HB.out | apply below_alloc | apply pw_below_drewN | apply below_drew1 | refine below_set ?_ GE194.out) | exact HB.out)) hb); clear HO_11; clear BK194; clear HB; have HO_11 := n0_; have HO200 := n1_; have BK194 := n2_; have HB := n3_; clear n0_ n1_ n2_ n3_; clear hb ho16; obtain ⟨Ao17, co17, eo17⟩ := Kd.R_slice HO200.out; subst eo17) | ((with_reducible refine gate_builtin (b := .append) (xs := #[.tmp 34, .tmp 40]) rfl ?_); at_builtin; refine Kd.N_append k72 (w0 := w) w.heap.size rfl (.tmp 34) (.tmp 40) 67 72 (.agg #[(.slice none 0 0), (.int .i64 0), (.bool false)]) 40 rfl Tryd.underlying67 info72 rfl (by decide) (by omega) u11 x11_1 (⟨y198, a3, false⟩ : S72) [.slice Ao17 y198.length co17, .int .i64 a3, .bool false] (fun k_ => (w.heap.size ≤ k_) ∧ k_ ≠ gb194) (fun k_ => ((fun k_ => (w.heap.size ≤ k_) ∧ k_ ≠ gb194)) k_ ∧ some k_ ≠ (u11 : Value).ownBlock) rfl rfl ?aP (fun _ hk => hk) ?aF ?aO ?aB ?aS ?aL ?_; (case aP => exact (k72_mkF _ _ (⟨y198, a3, false⟩ : S72) (Kd.R_reads' (Kd.R_mono (ok' := (fun k_ => ((fun k_ => (w.heap.size ≤ k_) ∧ k_ ≠ gb194)) k_ ∧ some k_ ≠ (u11 : Value).ownBlock)) (Kd.R_types (Kd.R_apart' (HO200.out) (Kd.N_typed HO_11.out) (by decide)) BK194.out (by decide)) (fun k_ hk => ⟨⟨hk.1.1.1, hk.2⟩, hk.1.2⟩))).2.1 (Kd.R_F (Kd.R_mono (ok' := (fun k_ => ((fun k_ => (w.heap.size ≤ k_) ∧ k_ ≠ gb194)) k_ ∧ some k_ ≠ (u11 : Value).ownBlock)) (Kd.R_types (Kd.R_apart' (HO200.out) (Kd.N_typed HO_11.out) (by decide)) BK194.out (by decide)) (fun k_ hk => ⟨⟨hk.1.1.1, hk.2⟩, hk.1.2⟩))))); (case aB => exact (by repeat (first | (with_reducible first | exact HB.out | apply below_alloc | apply pw_below_drewN | apply below_drew1 | refine below_set ?_ GE194.out) | exact HB.out))); (case aF => exact (fun k_ hk => ⟨(Nat.le_trans (below_size (by repeat (first | (with_reducible first | exact HB.out | apply below_alloc | apply pw_below_drewN | apply below_drew1 | refine below_set ?_ GE194.out) | exact HB.out))) hk), Kd.freshB (g := gb194) (o := .cells #[.int .i64 a4_0, .int .i64 a4_1, .bool a4_2, .bool a4_3, .bool a4_4] 53 (0, 0)) (by (with_reducible repeat (first | refine blk_drewN ?_ _ | refine blk_drew ?_ | refine blk_alloc ?_ _)); exact BK194.out) k_ hk⟩)); (case aO => exact (by (with_reducible repeat (first | apply Kd.N_alloc | apply Kd.N_drewN | apply Kd.N_drew)); exact Kd.N_mono HO_11.out (fun _ hk => ⟨hk.1.1, hk.1.2⟩))); (case aS => exact (below_size (by repeat (first | (with_reducible first | exact HB.out | apply below_alloc | apply pw_below_drewN | apply below_drew1 | refine below_set ?_ GE194.out) | exact HB.out)))); (case aL => have := LMc13.out; omega); intro v202 w18 ho hb hg hat; rw [← Ny201.out] at ho; have n0_ := Aside0.mk (blk_grown (g := gb194) (o := .cells #[.int .i64 a4_0, .int .i64 a4_1, .bool a4_2, .bool a4_3, .bool a4_4] 53 (0, 0)) (by (with_reducible repeat (first | refine blk_drewN ?_ _ | refine blk_drew ?_ | refine blk_alloc ?_ _)); exact BK194.out) hg (Kd.N_ne HO_11.out BK194.out (by decide))); have n1_ := Aside0.mk (hb); have n2_ := Aside0.mk (ho); clear BK194; clear HB; clear HO_11; clear HO200; have BK194 := n0_; have HB := n1_; have HO203 := n2_; clear n0_ n1_ n2_; clear ho hb hg hat))
       go_roundg k1
       case measure => have := HK1.out; omega
       case rel => exact ⟨(y201), (wrap64 (x12_1 + 1)), (by first | rfl | (simp; done) | (simp [*]; done)), H', ⟨by have := HK1.out; omega⟩, ⟨by (with_reducible repeat (first | apply Kd.N_alloc | apply Kd.N_drewN | apply Kd.N_drew)); exact HO203.out⟩, ⟨by (with_reducible repeat (first | refine blk_drewN ?_ _ | refine blk_drew ?_ | refine blk_alloc ?_ _)); exact BK194.out⟩, ⟨by repeat (first | (with_reducible first | exact HB.out | apply below_alloc | apply pw_below_drewN | apply below_drew1 | refine below_set ?_ GE194.out) | exact HB.out)⟩⟩
      ·rw [if_neg c13] at H
       exact absurd H (by simp)
     ·rw [if_neg c12] at H
      have c12b0 : (x12_1 == a1) = false := beq_eq_false_iff_ne.mpr c12
      have c12b1 : (x12_1 != a1) = true := bne_iff_ne.mpr c12
      by_cases c19 : a2 = 0
      ·rw [if_pos c19] at H
       exact absurd H (by simp)
      ·rw [if_neg c19] at H
       have c19b0 : (a2 == 0) = false := beq_eq_false_iff_ne.mpr c19
       have c19b1 : (a2 != 0) = true := bne_iff_ne.mpr c19
       by_cases c20 : (Int.tmod x12_1 a2) = 0
       ·rw [if_pos c20] at H
        have c20b0 : ((Int.tmod x12_1 a2) == 0) = true := beq_iff_eq.mpr c20
        have c20b1 : ((Int.tmod x12_1 a2) != 0) = false := bne_eq_false_iff_eq.mpr c20
        clear c20
        obtain rfl := Option.some.inj H
        go_wp2
        go_ret
        exact ⟨_, by first | rfl | (simp [errW_none, errW_some] <;> rfl) | (simp [*, errW_none, errW_some] <;> rfl), by (with_reducible repeat (first | apply Kd.N_alloc | apply Kd.N_drewN | apply Kd.N_drew)); exact Kd.N_mono HO_11.out (fun _ hk => hk.1), by repeat (first | (with_reducible first | exact HB.out | apply below_alloc | apply pw_below_drewN | apply below_drew1 | refine below_set ?_ GE194.out) | exact HB.out)⟩
       ·rw [if_neg c20] at H
        have c20b0 : ((Int.tmod x12_1 a2) == 0) = false := beq_eq_false_iff_ne.mpr c20
        have c20b1 : ((Int.tmod x12_1 a2) != 0) = true := bne_iff_ne.mpr c20
        obtain ⟨y204, hy204⟩ : ∃ y_ : List (S78), y_ = (([(⟨32, (⟨a4_0, a4_1, a4_2, a4_3, a4_4⟩ : S53)⟩ : S78)] : List (S78))) := ⟨_, rfl⟩
        replace H : (if x11_1.length < 3518437208883 then (copyistref35_one.l0 k1 a1 a2 a3 (x11_1 ++ [(⟨y204, a3, false⟩ : S72)]) (wrap64 (x12_1 + 1)) a4_0 a4_1 a4_2 a4_3 a4_4) else (none)) = some r := by first | (rw [hy204]; with_reducible exact H) | (have H2_ := (Option.bind_some _ _).symm.trans H; rw [hy204]; with_reducible exact H2_) | (have H2_ := (Option.bind_some _ _).symm.trans H; with_reducible exact H2_) | with_reducible exact H | (rw [hy204]; exact H) | exact H
        have Ny204 := Aside0.mk hy204
        clear hy204
        by_cases c21 : x11_1.length < 3518437208883
        ·rw [if_pos c21] at H
         have LMc21 := Aside0.mk c21
         clear c21
         obtain ⟨y207, hy207⟩ : ∃ y_ : List (S72), y_ = (x11_1 ++ [(⟨y204, a3, false⟩ : S72)]) := ⟨_, rfl⟩
         replace H : (copyistref35_one.l0 k1 a1 a2 a3 y207 (wrap64 (x12_1 + 1)) a4_0 a4_1 a4_2 a4_3 a4_4) = some r := by first | (rw [hy207]; with_reducible exact H) | (have H2_ := (Option.bind_some _ _).symm.trans H; rw [hy207]; with_reducible exact H2_) | (have H2_ := (Option.bind_some _ _).symm.trans H; with_reducible exact H2_) | with_reducible exact H | (rw [hy207]; exact H) | exact H
         have Ny207 := Aside0.mk hy207
         clear hy207
         have H' := Aside0.mk H
         clear H
         have hcz22_0 : wr.cell? ⟨gb194, 0, none⟩ = some (.int .i64 a4_0) := (blk_cell BK194.out 0).trans rfl
         have hcz22_1 : wr.cell? ⟨gb194, 1, none⟩ = some (.int .i64 a4_1) := (blk_cell BK194.out 1).trans rfl
         have hcz22_2 : wr.cell? ⟨gb194, 2, none⟩ = some (.bool a4_2) := (blk_cell BK194.out 2).trans rfl
         have hcz22_3 : wr.cell? ⟨gb194, 3, none⟩ = some (.bool a4_3) := (blk_cell BK194.out 3).trans rfl
         have hcz22_4 : wr.cell? ⟨gb194, 4, none⟩ = some (.bool a4_4) := (blk_cell BK194.out 4).trans rfl
         have hfz22_0 := blk_frozen BK194.out 0
         have hfz22_1 := blk_frozen BK194.out 1
         have hfz22_2 := blk_frozen BK194.out 2
         have hfz22_3 := blk_frozen BK194.out 3
         have hfz22_4 := blk_frozen BK194.out 4
         go_wp2_with (first | ((with_reducible refine gate_dst (N := 37) rfl ?_); refine Kd.R_lit k78 _ 78 ?hg (N := 37) ?hd (xs := ([(⟨32, (⟨a4_0, a4_1, a4_2, a4_3, a4_4⟩ : S53)⟩ : S78)] : List (S78))) (inner := [.int .i64 32, .int .i64 a4_0, .int .i64 a4_1, .bool a4_2, .bool a4_3, .bool a4_4]) (ok := fun _ => True) (okp := fun _ => True) ?hr ?hp (fun _ hk => hk) trivial (Below.refl _ _) (Nat.le_refl _) (by simp) ?_; (case hd => rfl); (case hg => rfl); (case hr => first | (go_simp; done) | (go_simp; rfl)); (case hp => exact (Reps.c6 (show Kd.M k78 _ _ _ (⟨32, (⟨a4_0, a4_1, a4_2, a4_3, a4_4⟩ : S53)⟩ : S78) [.int .i64 32, .int .i64 a4_0, .int .i64 a4_1, .bool a4_2, .bool a4_3, .bool a4_4] from (k78_mkM _ _ _ (⟨32, (⟨a4_0, a4_1, a4_2, a4_3, a4_4⟩ : S53)⟩ : S78) )) (Reps.none _ _))); intro v205 w23 ho24 hb hg_ hnew_; clear hg_ hnew_; (first | rw [← Ny204.out] at ho24 | (simp only [Int.reduceToNat] at ho24; rw [← Ny204.out] at ho24)); have n0_ := Aside0.mk (Kd.N_elder' (by (with_reducible repeat (first | apply Kd.N_alloc | apply Kd.N_drewN | apply Kd.N_drew)); exact HO_11.out) (Kd.R_base ho24) hb); have n1_ := Aside0.mk (Kd.R_lower (Kd.R_newM (M := fun k_ => (w.heap.size ≤ k_)) ho24 (below_size (by repeat (first | (with_reducible first | exact HB.out | apply below_alloc | apply pw_below_drewN | apply below_drew1 | refine below_set ?_ GE194.out) | exact HB.out))) (fun k_ h_ => h_)) (below_size (by repeat (first | (with_reducible first | exact HB.out | apply below_alloc | apply pw_below_drewN | apply below_drew1 | refine below_set ?_ GE194.out) | exact HB.out)))); have n2_ := Aside0.mk (blk_below (g := gb194) (o := .cells #[.int .i64 a4_0, .int .i64 a4_1, .bool a4_2, .bool a4_3, .bool a4_4] 53 (0, 0)) (by (with_reducible repeat (first | refine blk_drewN ?_ _ | refine blk_drew ?_ | refine blk_alloc ?_ _)); exact BK194.out) hb); have n3_ := Aside0.mk (below_step (by repeat (first | (with_reducible first | exact HB.out | apply below_alloc | apply pw_below_drewN | apply below_drew1 | refine below_set ?_ GE194.out) | exact HB.out)) hb); clear HO_11; clear BK194; clear HB; have HO_11 := n0_; have HO206 := n1_; have BK194 := n2_; have HB := n3_; clear n0_ n1_ n2_ n3_; clear hb ho24; obtain ⟨Ao25, co25, eo25⟩ := Kd.R_slice HO206.out; subst eo25) | ((with_reducible refine gate_builtin (b := .append) (xs := #[.tmp 34, .tmp 40]) rfl ?_); at_builtin; refine Kd.N_append k72 (w0 := w) w.heap.size rfl (.tmp 34) (.tmp 40) 67 72 (.agg #[(.slice none 0 0), (.int .i64 0), (.bool false)]) 40 rfl Tryd.underlying67 info72 rfl (by decide) (by omega) u11 x11_1 (⟨y204, a3, false⟩ : S72) [.slice Ao25 y204.length co25, .int .i64 a3, .bool false] (fun k_ => (w.heap.size ≤ k_) ∧ k_ ≠ gb194) (fun k_ => ((fun k_ => (w.heap.size ≤ k_) ∧ k_ ≠ gb194)) k_ ∧ some k_ ≠ (u11 : Value).ownBlock) rfl rfl ?aP (fun _ hk => hk) ?aF ?aO ?aB ?aS ?aL ?_; (case aP => exact (k72_mkF _ _ (⟨y204, a3, false⟩ : S72) (Kd.R_reads' (Kd.R_mono (ok' := (fun k_ => ((fun k_ => (w.heap.size ≤ k_) ∧ k_ ≠ gb194)) k_ ∧ some k_ ≠ (u11 : Value).ownBlock)) (Kd.R_types (Kd.R_apart' (HO206.out) (Kd.N_typed HO_11.out) (by decide)) BK194.out (by decide)) (fun k_ hk => ⟨⟨hk.1.1.1, hk.2⟩, hk.1.2⟩))).2.1 (Kd.R_F (Kd.R_mono (ok' := (fun k_ => ((fun k_ => (w.heap.size ≤ k_) ∧ k_ ≠ gb194)) k_ ∧ some k_ ≠ (u11 : Value).ownBlock)) (Kd.R_types (Kd.R_apart' (HO206.out) (Kd.N_typed HO_11.out) (by decide)) BK194.out (by decide)) (fun k_ hk => ⟨⟨hk.1.1.1, hk.2⟩, hk.1.2⟩))))); (case aB => exact (by repeat (first | (with_reducible first | exact HB.out | apply below_alloc | apply pw_below_drewN | apply below_drew1 | refine below_set ?_ GE194.out) | exact HB.out))); (case aF => exact (fun k_ hk => ⟨(Nat.le_trans (below_size (by repeat (first | (with_reducible first | exact HB.out | apply below_alloc | apply pw_below_drewN | apply below_drew1 | refine below_set ?_ GE194.out) | exact HB.out))) hk), Kd.freshB (g := gb194) (o := .cells #[.int .i64 a4_0, .int .i64 a4_1, .bool a4_2, .bool a4_3, .bool a4_4] 53 (0, 0)) (by (with_reducible repeat (first | refine blk_drewN ?_ _ | refine blk_drew ?_ | refine blk_alloc ?_ _)); exact BK194.out) k_ hk⟩)); (case aO => exact (by (with_reducible repeat (first | apply Kd.N_alloc | apply Kd.N_drewN | apply Kd.N_drew)); exact Kd.N_mono HO_11.out (fun _ hk => ⟨hk.1.1, hk.1.2⟩))); (case aS => exact (below_size (by repeat (first | (with_reducible first | exact HB.out | apply below_alloc | apply pw_below_drewN | apply below_drew1 | refine below_set ?_ GE194.out) | exact HB.out)))); (case aL => have := LMc21.out; omega); intro v208 w26 ho hb hg hat; rw [← Ny207.out] at ho; have n0_ := Aside0.mk (blk_grown (g := gb194) (o := .cells #[.int .i64 a4_0, .int .i64 a4_1, .bool a4_2, .bool a4_3, .bool a4_4] 53 (0, 0)) (by (with_reducible repeat (first | refine blk_drewN ?_ _ | refine blk_drew ?_ | refine blk_alloc ?_ _)); exact BK194.out) hg (Kd.N_ne HO_11.out BK194.out (by decide))); have n1_ := Aside0.mk (hb); have n2_ := Aside0.mk (ho); clear BK194; clear HB; clear HO_11; clear HO206; have BK194 := n0_; have HB := n1_; have HO209 := n2_; clear n0_ n1_ n2_; clear ho hb hg hat))
         go_roundg k1
         case measure => have := HK1.out; omega
         case rel => exact ⟨(y207), (wrap64 (x12_1 + 1)), (by first | rfl | (simp; done) | (simp [*]; done)), H', ⟨by have := HK1.out; omega⟩, ⟨by (with_reducible repeat (first | apply Kd.N_alloc | apply Kd.N_drewN | apply Kd.N_drew)); exact HO209.out⟩, ⟨by (with_reducible repeat (first | refine blk_drewN ?_ _ | refine blk_drew ?_ | refine blk_alloc ?_ _)); exact BK194.out⟩, ⟨by repeat (first | (with_reducible first | exact HB.out | apply below_alloc | apply pw_below_drewN | apply below_drew1 | refine below_set ?_ GE194.out) | exact HB.out)⟩⟩
        ·rw [if_neg c21] at H
         exact absurd H (by simp)
  ·rw [if_neg c10] at H
   have c10b0 : (a0 == 9) = false := beq_eq_false_iff_ne.mpr c10
   have c10b1 : (a0 != 9) = true := bne_iff_ne.mpr c10
   have HC27 := Aside0.mk H
   clear H
   go_enter Tryd.func37, Tryd.ntmps37
   go_upto_region 10 with (first | ((with_reducible refine gate_dst (N := 9) rfl ?_); refine box_event ?hg (N := 9) ?hd (cs := #[.int .i64 a4_0, .int .i64 a4_1, .bool a4_2, .bool a4_3, .bool a4_4]) (t := 53) ?hr ?_; (case hd => rfl); (case hg => rfl); (case hr => first | (go_simp; done) | (go_simp; rfl)); intro gb194 hg w28 hbox hb; have n0_ := Aside0.mk (below_step (by repeat (first | (with_reducible first | exact HB.out | apply below_alloc | apply pw_below_drewN | apply below_drew1) | exact HB.out)) hb); have n1_ := Aside0.mk (hbox); have n2_ := Aside0.mk ((by rw [hg]; exact (below_size (by repeat (first | (with_reducible first | exact HB.out | apply below_alloc | apply pw_below_drewN | apply below_drew1) | exact HB.out))) : w.heap.size ≤ gb194)); have n3_ := Aside0.mk ((by rw [hg]; exact (below_size (by repeat (first | (with_reducible first | exact HB.out | apply below_alloc | apply pw_below_drewN | apply below_drew1) | exact HB.out))) : w.heap.size ≤ gb194)); clear HB; have HB := n0_; have BK194 := n1_; have GW194 := n2_; have GE194 := n3_; clear n0_ n1_ n2_ n3_; clear hb hbox hg))
   (try simp only [Act.put, List.setIfInBounds_toArray, List.set_cons_zero, List.set_cons_succ])
   go_cut [43] (fun v43 wc => ∃ (kq : Nat) (x43_26 : Bool), v43 = .bool x43_26 ∧ Aside0 (copyistref35_one.j1 kq a0 a3 x43_26 a4_0 a4_1 a4_2 a4_3 a4_4 = some r) ∧ Aside0 (kq ≤ k) ∧ Aside0 (wc.heap[gb194]? = some (.cells #[.int .i64 a4_0, .int .i64 a4_1, .bool a4_2, .bool a4_3, .bool a4_4] 53 (0, 0))) ∧ Aside0 (Below w.heap.size w wc))
   case first =>
    have H := HC27.out
    clear HC27
    by_cases c29 : a0 < 32
    ·rw [if_pos c29] at H
     have c29b0 : decide (a0 < 32) = true := decide_eq_true c29
     clear c29
     (first | rw [c29b0] | (simp only [i64_w, i32_w]; rw [c29b0]) | skip)
     have H' := Aside0.mk H
     clear H
     go_wp2
     go_meet
     case rel => exact ⟨_, (true), (by first | rfl | (simp; done) | (simp [*]; done)), H', ⟨by first | omega | exact Nat.le_refl _⟩, ⟨by (with_reducible repeat (first | refine blk_drewN ?_ _ | refine blk_drew ?_ | refine blk_alloc ?_ _)); exact BK194.out⟩, ⟨by repeat (first | (with_reducible first | exact HB.out | apply below_alloc | apply pw_below_drewN | apply below_drew1 | refine below_set ?_ GE194.out) | exact HB.out)⟩⟩
    ·rw [if_neg c29] at H
     have c29b0 : decide (a0 < 32) = false := decide_eq_false c29
     clear c29
     (first | rw [c29b0] | (simp only [i64_w, i32_w]; rw [c29b0]) | skip)
     have H' := Aside0.mk H
     clear H
     go_wp2
     go_meet
     case rel => exact ⟨_, ((a0 == 127)), (by first | rfl | (simp; done) | (simp [*]; done)), H', ⟨by first | omega | exact Nat.le_refl _⟩, ⟨by (with_reducible repeat (first | refine blk_drewN ?_ _ | refine blk_drew ?_ | refine blk_alloc ?_ _)); exact BK194.out⟩, ⟨by repeat (first | (with_reducible first | exact HB.out | apply below_alloc | apply pw_below_drewN | apply below_drew1 | refine below_set ?_ GE194.out) | exact HB.out)⟩⟩
   case rest =>
    clear HC27
    try clear c1
    try clear c2
    try clear p2
    try clear c3
    try clear c6
    try clear c6b0
    try clear c6b1
    try clear p6
    try clear c10
    try clear c10b0
    try clear c10b1
    try clear c12
    try clear c12b0
    try clear c12b1
    try clear c13
    try clear c19
    try clear c19b0
    try clear c19b1
    try clear c20
    try clear c20b0
    try clear c20b1
    try clear c21
    try clear c29
    try clear c29b0
    try clear hcz14_0
    try clear hcz14_1
    try clear hcz14_2
    try clear hcz14_3
    try clear hcz14_4
    try clear hcz22_0
    try clear hcz22_1
    try clear hcz22_2
    try clear hcz22_3
    try clear hcz22_4
    try clear hfz14_0
    try clear hfz14_1
    try clear hfz14_2
    try clear hfz14_3
    try clear hfz14_4
    try clear hfz22_0
    try clear hfz22_1
    try clear hfz22_2
    try clear hfz22_3
    try clear hfz22_4
    try clear p2
    obtain ⟨kq, x43_26, rfl, HA, HJ26, BK194, HB⟩ := hcut
    cases kq with
    | zero => exact absurd HA.out (by simp [copyistref35_one.j1])
    | succ kj26 =>
     have H := HA.out
     clear HA
     simp only [copyistref35_one.j1] at H
     by_cases c30 : x43_26 = true
     ·subst c30
      have H1 : (some (([(⟨(([(⟨94, (⟨a4_0, a4_1, a4_2, a4_3, a4_4⟩ : S53)⟩ : S78), (⟨Go.bits .xor .i64 a0 64, (⟨a4_0, a4_1, a4_2, a4_3, a4_4⟩ : S53)⟩ : S78)] : List (S78))), a3, false⟩ : S72)] : List (S72)))) = some r := by rw [if_pos rfl] at H; exact H
      clear H
      have H := H1
      clear H1
      obtain ⟨y210, hy210⟩ : ∃ y_ : List (S78), y_ = (([(⟨94, (⟨a4_0, a4_1, a4_2, a4_3, a4_4⟩ : S53)⟩ : S78), (⟨Go.bits .xor .i64 a0 64, (⟨a4_0, a4_1, a4_2, a4_3, a4_4⟩ : S53)⟩ : S78)] : List (S78))) := ⟨_, rfl⟩
      replace H : (some (([(⟨y210, a3, false⟩ : S72)] : List (S72)))) = some r := by first | (rw [hy210]; with_reducible exact H) | (have H2_ := (Option.bind_some _ _).symm.trans H; rw [hy210]; with_reducible exact H2_) | (have H2_ := (Option.bind_some _ _).symm.trans H; with_reducible exact H2_) | with_reducible exact H | (rw [hy210]; exact H) | exact H
      have Ny210 := Aside0.mk hy210
      clear hy210
      obtain ⟨y213, hy213⟩ : ∃ y_ : List (S72), y_ = (([(⟨y210, a3, false⟩ : S72)] : List (S72))) := ⟨_, rfl⟩
      replace H : (some y213) = some r := by first | (rw [hy213]; with_reducible exact H) | (have H2_ := (Option.bind_some _ _).symm.trans H; rw [hy213]; with_reducible exact H2_) | (have H2_ := (Option.bind_some _ _).symm.trans H; with_reducible exact H2_) | with_reducible exact H | (rw [hy213]; exact H) | exact H
      have Ny213 := Aside0.mk hy213
      clear hy213
      obtain rfl := Option.some.inj H
      have hcz31_0 : wc.cell? ⟨gb194, 0, none⟩ = some (.int .i64 a4_0) := (blk_cell BK194.out 0).trans rfl
      have hcz31_1 : wc.cell? ⟨gb194, 1, none⟩ = some (.int .i64 a4_1) := (blk_cell BK194.out 1).trans rfl
      have hcz31_2 : wc.cell? ⟨gb194, 2, none⟩ = some (.bool a4_2) := (blk_cell BK194.out 2).trans rfl
      have hcz31_3 : wc.cell? ⟨gb194, 3, none⟩ = some (.bool a4_3) := (blk_cell BK194.out 3).trans rfl
      have hcz31_4 : wc.cell? ⟨gb194, 4, none⟩ = some (.bool a4_4) := (blk_cell BK194.out 4).trans rfl
      have hfz31_0 := blk_frozen BK194.out 0
      have hfz31_1 := blk_frozen BK194.out 1
      have hfz31_2 := blk_frozen BK194.out 2
      have hfz31_3 := blk_frozen BK194.out 3
      have hfz31_4 := blk_frozen BK194.out 4
      go_wp2_with (first | ((with_reducible refine gate_dst (N := 56) rfl ?_); refine Kd.R_lit k78 _ 78 ?hg (N := 56) ?hd (xs := ([(⟨94, (⟨a4_0, a4_1, a4_2, a4_3, a4_4⟩ : S53)⟩ : S78), (⟨Go.bits .xor .i64 a0 64, (⟨a4_0, a4_1, a4_2, a4_3, a4_4⟩ : S53)⟩ : S78)] : List (S78))) (inner := [.int .i64 94, .int .i64 a4_0, .int .i64 a4_1, .bool a4_2, .bool a4_3, .bool a4_4, .int .i64 (Go.bits .xor .i64 a0 64), .int .i64 a4_0, .int .i64 a4_1, .bool a4_2, .bool a4_3, .bool a4_4]) (ok := fun _ => True) (okp := fun _ => True) ?hr ?hp (fun _ hk => hk) trivial (Below.refl _ _) (Nat.le_refl _) (by simp) ?_; (case hd => rfl); (case hg => rfl); (case hr => first | (go_simp; done) | (go_simp; rfl)); (case hp => exact (Reps.c6 (show Kd.M k78 _ _ _ (⟨94, (⟨a4_0, a4_1, a4_2, a4_3, a4_4⟩ : S53)⟩ : S78) [.int .i64 94, .int .i64 a4_0, .int .i64 a4_1, .bool a4_2, .bool a4_3, .bool a4_4] from (k78_mkM _ _ _ (⟨94, (⟨a4_0, a4_1, a4_2, a4_3, a4_4⟩ : S53)⟩ : S78) )) (Reps.c6 (show Kd.M k78 _ _ _ (⟨Go.bits .xor .i64 a0 64, (⟨a4_0, a4_1, a4_2, a4_3, a4_4⟩ : S53)⟩ : S78) [.int .i64 (Go.bits .xor .i64 a0 64), .int .i64 a4_0, .int .i64 a4_1, .bool a4_2, .bool a4_3, .bool a4_4] from (k78_mkM _ _ _ (⟨Go.bits .xor .i64 a0 64, (⟨a4_0, a4_1, a4_2, a4_3, a4_4⟩ : S53)⟩ : S78) )) (Reps.none _ _)))); intro v211 w32 ho33 hb hg_ hnew_; clear hg_ hnew_; (first | rw [← Ny210.out] at ho33 | (simp only [Int.reduceToNat] at ho33; rw [← Ny210.out] at ho33)); have n0_ := Aside0.mk (Kd.R_lower (Kd.R_newM (M := fun k_ => (w.heap.size ≤ k_)) ho33 (below_size (by repeat (first | (with_reducible first | exact HB.out | apply below_alloc | apply pw_below_drewN | apply below_drew1 | refine below_set ?_ GE194.out) | exact HB.out))) (fun k_ h_ => h_)) (below_size (by repeat (first | (with_reducible first | exact HB.out | apply below_alloc | apply pw_below_drewN | apply below_drew1 | refine below_set ?_ GE194.out) | exact HB.out)))); have n1_ := Aside0.mk (blk_below (g := gb194) (o := .cells #[.int .i64 a4_0, .int .i64 a4_1, .bool a4_2, .bool a4_3, .bool a4_4] 53 (0, 0)) (by (with_reducible repeat (first | refine blk_drewN ?_ _ | refine blk_drew ?_ | refine blk_alloc ?_ _)); exact BK194.out) hb); have n2_ := Aside0.mk (below_step (by repeat (first | (with_reducible first | exact HB.out | apply below_alloc | apply pw_below_drewN | apply below_drew1 | refine below_set ?_ GE194.out) | exact HB.out)) hb); clear BK194; clear HB; have HO212 := n0_; have BK194 := n1_; have HB := n2_; clear n0_ n1_ n2_; clear hb ho33; obtain ⟨Ao34, co34, eo34⟩ := Kd.R_slice HO212.out; subst eo34) | ((with_reducible refine gate_dst (N := 59) rfl ?_); refine Kd.N_lit k72 _ 72 ?hg (N' := 59) ?hd (xs := ([(⟨y210, a3, false⟩ : S72)] : List (S72))) (inner := [.slice Ao34 y210.length co34, .int .i64 a3, .bool false]) (ok := (fun k_ => (w.heap.size ≤ k_) ∧ k_ ≠ gb194)) (okp := (fun k_ => (w.heap.size ≤ k_) ∧ k_ ≠ gb194)) ?hr ?hp (fun _ hk => hk) ((show ∀ k_, w32.heap.size ≤ k_ → (fun k_ => (w.heap.size ≤ k_) ∧ k_ ≠ gb194) k_ from fun k_ hk => ⟨(Nat.le_trans (below_size (by repeat (first | (with_reducible first | exact HB.out | apply below_alloc | apply pw_below_drewN | apply below_drew1 | refine below_set ?_ GE194.out) | exact HB.out))) hk), Kd.freshB (g := gb194) (o := .cells #[.int .i64 a4_0, .int .i64 a4_1, .bool a4_2, .bool a4_3, .bool a4_4] 53 (0, 0)) (by (with_reducible repeat (first | refine blk_drewN ?_ _ | refine blk_drew ?_ | refine blk_alloc ?_ _)); exact BK194.out) k_ hk⟩) _ (Nat.le_refl _)) (Below.refl _ _) (Nat.le_refl _) (by simp) ?_; (case hd => rfl); (case hg => rfl); (case hr => first | (go_simp; done) | (go_simp; rfl)); (case hp => exact (Reps.c3 (show Kd.FK k72 _ _ (⟨y210, a3, false⟩ : S72) [.slice Ao34 y210.length co34, .int .i64 a3, .bool false] from (k72_mkF _ _ (⟨y210, a3, false⟩ : S72) (Kd.R_reads' (Kd.R_mono (ok' := (fun k_ => (w.heap.size ≤ k_) ∧ k_ ≠ gb194)) (Kd.R_types (HO212.out) BK194.out (by decide)) (fun k_ hk => ⟨hk.1.1, hk.2⟩))).2.1 (Kd.R_F (Kd.R_mono (ok' := (fun k_ => (w.heap.size ≤ k_) ∧ k_ ≠ gb194)) (Kd.R_types (HO212.out) BK194.out (by decide)) (fun k_ hk => ⟨hk.1.1, hk.2⟩))))) (Reps.none _ _))); intro v214 w35 ho36 hb hg_ hnew_; clear hg_ hnew_; (first | rw [← Ny213.out] at ho36 | (simp only [Int.reduceToNat] at ho36; rw [← Ny213.out] at ho36)); have n0_ := Aside0.mk (Kd.N_lower ho36 (below_size (by repeat (first | (with_reducible first | exact HB.out | apply below_alloc | apply pw_below_drewN | apply below_drew1 | refine below_set ?_ GE194.out) | exact HB.out)))); have n1_ := Aside0.mk (blk_below (g := gb194) (o := .cells #[.int .i64 a4_0, .int .i64 a4_1, .bool a4_2, .bool a4_3, .bool a4_4] 53 (0, 0)) (by (with_reducible repeat (first | refine blk_drewN ?_ _ | refine blk_drew ?_ | refine blk_alloc ?_ _)); exact BK194.out) hb); have n2_ := Aside0.mk (below_step (by repeat (first | (with_reducible first | exact HB.out | apply below_alloc | apply pw_below_drewN | apply below_drew1 | refine below_set ?_ GE194.out) | exact HB.out)) hb); clear BK194; clear HB; clear HO212; have HO215 := n0_; have BK194 := n1_; have HB := n2_; clear n0_ n1_ n2_; clear hb ho36))
      go_ret
      exact ⟨_, by first | rfl | (simp [errW_none, errW_some] <;> rfl) | (simp [*, errW_none, errW_some] <;> rfl), by (with_reducible repeat (first | apply Kd.N_alloc | apply Kd.N_drewN | apply Kd.N_drew)); exact Kd.N_mono HO215.out (fun _ hk => hk.1), by repeat (first | (with_reducible first | exact HB.out | apply below_alloc | apply pw_below_drewN | apply below_drew1 | refine below_set ?_ GE194.out) | exact HB.out)⟩
     ·replace c30 := Bool.eq_false_iff.mpr c30
      subst c30
      have H1 : ((copyistref01_Width.f kj26 a0).bind fun t216 => (if t216 = 0 then (some ([] : List (S72))) else ((copyistref01_Width.f kj26 a0).bind fun t217 => (if t217 = 2 then (some (([(⟨(([(⟨a0, (⟨a4_0, a4_1, a4_2, a4_3, a4_4⟩ : S53)⟩ : S78), (⟨(-1), (⟨a4_0, a4_1, a4_2, a4_3, a4_4⟩ : S53)⟩ : S78)] : List (S78))), a3, false⟩ : S72)] : List (S72)))) else (some (([(⟨(([(⟨a0, (⟨a4_0, a4_1, a4_2, a4_3, a4_4⟩ : S53)⟩ : S78)] : List (S78))), a3, false⟩ : S72)] : List (S72)))))))) = some r := by rw [if_neg (show ¬ (false = true) by decide)] at H; exact H
      clear H
      have H := H1
      clear H1
      replace H := Option.bind_eq_some_iff.mp H
      obtain ⟨t216, A370, H⟩ := H
      replace H : (if t216 = 0 then (some ([] : List (S72))) else ((copyistref01_Width.f kj26 a0).bind fun t217 => (if t217 = 2 then (some (([(⟨(([(⟨a0, (⟨a4_0, a4_1, a4_2, a4_3, a4_4⟩ : S53)⟩ : S78), (⟨(-1), (⟨a4_0, a4_1, a4_2, a4_3, a4_4⟩ : S53)⟩ : S78)] : List (S78))), a3, false⟩ : S72)] : List (S72)))) else (some (([(⟨(([(⟨a0, (⟨a4_0, a4_1, a4_2, a4_3, a4_4⟩ : S53)⟩ : S78)] : List (S78))), a3, false⟩ : S72)] : List (S72))))))) = some r := H
      have A37 := Aside0.mk A370
      clear A370
      by_cases c38 : t216 = 0
      ·rw [if_pos c38] at H
       have c38b0 : (t216 == 0) = true := beq_iff_eq.mpr c38
       have c38b1 : (t216 != 0) = false := bne_eq_false_iff_eq.mpr c38
       clear c38
       obtain rfl := Option.some.inj H
       go_wp2_with (first | ((with_reducible refine gate_callee (f := 57) rfl ?_); refine goesL_ (some 62) rfl rfl Tryd.func57 (by kernel_rfl) rfl #[.int .i64 a0] rfl (by (try simp only [List.map_toArray, List.map_cons, List.map_nil]); first | done | rfl | (simp only [List.length_drop, List.length_take]; rfl)) ?_; (with_reducible refine (copyistref01_Width.calls kj26 a0 t216 _ A37.out).mono ?_); rintro e w39 ⟨rfl, hb⟩; refine ⟨_, rfl, ?_⟩; have n0_ := Aside0.mk (blk_below (g := gb194) (o := .cells #[.int .i64 a4_0, .int .i64 a4_1, .bool a4_2, .bool a4_3, .bool a4_4] 53 (0, 0)) (by (with_reducible repeat (first | refine blk_drewN ?_ _ | refine blk_drew ?_ | refine blk_alloc ?_ _)); exact BK194.out) hb); have n1_ := Aside0.mk (below_step (by repeat (first | (with_reducible first | exact HB.out | apply below_alloc | apply pw_below_drewN | apply below_drew1 | refine below_set ?_ GE194.out) | exact HB.out)) hb); clear BK194; clear HB; have BK194 := n0_; have HB := n1_; clear n0_ n1_; (try clear hb); (try clear hb2); (try clear hk); (try clear hi)))
       go_ret
       exact ⟨_, by first | rfl | (simp [errW_none, errW_some] <;> rfl) | (simp [*, errW_none, errW_some] <;> rfl), by first | exact Kd.S_nil _ _ _ _ _ | exact Kd.N_nil _ _ _ _ _ | exact Kd.V_nil _ _ _ _ _ | exact Kd.Q_nil _ _ _ _ _ | exact Kd.R_nil _ _ _ _ _, by repeat (first | (with_reducible first | exact HB.out | apply below_alloc | apply pw_below_drewN | apply below_drew1 | refine below_set ?_ GE194.out) | exact HB.out)⟩
      ·rw [if_neg c38] at H
       have c38b0 : (t216 == 0) = false := beq_eq_false_iff_ne.mpr c38
       have c38b1 : (t216 != 0) = true := bne_iff_ne.mpr c38
       replace H := Option.bind_eq_some_iff.mp H
       obtain ⟨t217, A400, H⟩ := H
       replace H : (if t217 = 2 then (some (([(⟨(([(⟨a0, (⟨a4_0, a4_1, a4_2, a4_3, a4_4⟩ : S53)⟩ : S78), (⟨(-1), (⟨a4_0, a4_1, a4_2, a4_3, a4_4⟩ : S53)⟩ : S78)] : List (S78))), a3, false⟩ : S72)] : List (S72)))) else (some (([(⟨(([(⟨a0, (⟨a4_0, a4_1, a4_2, a4_3, a4_4⟩ : S53)⟩ : S78)] : List (S78))), a3, false⟩ : S72)] : List (S72))))) = some r := H
       have A40 := Aside0.mk A400
       clear A400
       by_cases c41 : t217 = 2
       ·rw [if_pos c41] at H
        have c41b0 : (t217 == 2) = true := beq_iff_eq.mpr c41
        have c41b1 : (t217 != 2) = false := bne_eq_false_iff_eq.mpr c41
        clear c41
        obtain ⟨y218, hy218⟩ : ∃ y_ : List (S78), y_ = (([(⟨a0, (⟨a4_0, a4_1, a4_2, a4_3, a4_4⟩ : S53)⟩ : S78), (⟨(-1), (⟨a4_0, a4_1, a4_2, a4_3, a4_4⟩ : S53)⟩ : S78)] : List (S78))) := ⟨_, rfl⟩
        replace H : (some (([(⟨y218, a3, false⟩ : S72)] : List (S72)))) = some r := by first | (rw [hy218]; with_reducible exact H) | (have H2_ := (Option.bind_some _ _).symm.trans H; rw [hy218]; with_reducible exact H2_) | (have H2_ := (Option.bind_some _ _).symm.trans H; with_reducible exact H2_) | with_reducible exact H | (rw [hy218]; exact H) | exact H
        have Ny218 := Aside0.mk hy218
        clear hy218
        obtain ⟨y221, hy221⟩ : ∃ y_ : List (S72), y_ = (([(⟨y218, a3, false⟩ : S72)] : List (S72))) := ⟨_, rfl⟩
        replace H : (some y221) = some r := by first | (rw [hy221]; with_reducible exact H) | (have H2_ := (Option.bind_some _ _).symm.trans H; rw [hy221]; with_reducible exact H2_) | (have H2_ := (Option.bind_some _ _).symm.trans H; with_reducible exact H2_) | with_reducible exact H | (rw [hy221]; exact H) | exact H
        have Ny221 := Aside0.mk hy221
        clear hy221
        obtain rfl := Option.some.inj H
        go_wp2_with (first | ((with_reducible refine gate_callee (f := 57) rfl ?_); refine goesL_ (some 62) rfl rfl Tryd.func57 (by kernel_rfl) rfl #[.int .i64 a0] rfl (by (try simp only [List.map_toArray, List.map_cons, List.map_nil]); first | done | rfl | (simp only [List.length_drop, List.length_take]; rfl)) ?_; (with_reducible refine (copyistref01_Width.calls kj26 a0 t216 _ A37.out).mono ?_); rintro e w42 ⟨rfl, hb⟩; refine ⟨_, rfl, ?_⟩; have n0_ := Aside0.mk (blk_below (g := gb194) (o := .cells #[.int .i64 a4_0, .int .i64 a4_1, .bool a4_2, .bool a4_3, .bool a4_4] 53 (0, 0)) (by (with_reducible repeat (first | refine blk_drewN ?_ _ | refine blk_drew ?_ | refine blk_alloc ?_ _)); exact BK194.out) hb); have n1_ := Aside0.mk (below_step (by repeat (first | (with_reducible first | exact HB.out | apply below_alloc | apply pw_below_drewN | apply below_drew1 | refine below_set ?_ GE194.out) | exact HB.out)) hb); clear BK194; clear HB; have BK194 := n0_; have HB := n1_; clear n0_ n1_; (try clear hb); (try clear hb2); (try clear hk); (try clear hi)) | ((with_reducible refine gate_callee (f := 57) rfl ?_); refine goesL_ (some 66) rfl rfl Tryd.func57 (by kernel_rfl) rfl #[.int .i64 a0] rfl (by (try simp only [List.map_toArray, List.map_cons, List.map_nil]); first | done | rfl | (simp only [List.length_drop, List.length_take]; rfl)) ?_; (with_reducible refine (copyistref01_Width.calls kj26 a0 t217 _ A40.out).mono ?_); rintro e w43 ⟨rfl, hb⟩; refine ⟨_, rfl, ?_⟩; have n0_ := Aside0.mk (blk_below (g := gb194) (o := .cells #[.int .i64 a4_0, .int .i64 a4_1, .bool a4_2, .bool a4_3, .bool a4_4] 53 (0, 0)) (by (with_reducible repeat (first | refine blk_drewN ?_ _ | refine blk_drew ?_ | refine blk_alloc ?_ _)); exact BK194.out) hb); have n1_ := Aside0.mk (below_step (by repeat (first | (with_reducible first | exact HB.out | apply below_alloc | apply pw_below_drewN | apply below_drew1 | refine below_set ?_ GE194.out) | exact HB.out)) hb); clear BK194; clear HB; have BK194 := n0_; have HB := n1_; clear n0_ n1_; (try clear hb); (try clear hb2); (try clear hk); (try clear hi); have hcz44_0 : w43.cell? ⟨gb194, 0, none⟩ = some (.int .i64 a4_0) := (blk_cell BK194.out 0).trans rfl; have hcz44_1 : w43.cell? ⟨gb194, 1, none⟩ = some (.int .i64 a4_1) := (blk_cell BK194.out 1).trans rfl; have hcz44_2 : w43.cell? ⟨gb194, 2, none⟩ = some (.bool a4_2) := (blk_cell BK194.out 2).trans rfl; have hcz44_3 : w43.cell? ⟨gb194, 3, none⟩ = some (.bool a4_3) := (blk_cell BK194.out 3).trans rfl; have hcz44_4 : w43.cell? ⟨gb194, 4, none⟩ = some (.bool a4_4) := (blk_cell BK194.out 4).trans rfl; have hfz44_0 := blk_frozen BK194.out 0; have hfz44_1 := blk_frozen BK194.out 1; have hfz44_2 := blk_frozen BK194.out 2; have hfz44_3 := blk_frozen BK194.out 3; have hfz44_4 := blk_frozen BK194.out 4) | ((with_reducible refine gate_dst (N := 73) rfl ?_); refine Kd.R_lit k78 _ 78 ?hg (N := 73) ?hd (xs := ([(⟨a0, (⟨a4_0, a4_1, a4_2, a4_3, a4_4⟩ : S53)⟩ : S78), (⟨(-1), (⟨a4_0, a4_1, a4_2, a4_3, a4_4⟩ : S53)⟩ : S78)] : List (S78))) (inner := [.int .i64 a0, .int .i64 a4_0, .int .i64 a4_1, .bool a4_2, .bool a4_3, .bool a4_4, .int .i64 (-1), .int .i64 a4_0, .int .i64 a4_1, .bool a4_2, .bool a4_3, .bool a4_4]) (ok := fun _ => True) (okp := fun _ => True) ?hr ?hp (fun _ hk => hk) trivial (Below.refl _ _) (Nat.le_refl _) (by simp) ?_; (case hd => rfl); (case hg => rfl); (case hr => first | (go_simp; done) | (go_simp; rfl)); (case hp => exact (Reps.c6 (show Kd.M k78 _ _ _ (⟨a0, (⟨a4_0, a4_1, a4_2, a4_3, a4_4⟩ : S53)⟩ : S78) [.int .i64 a0, .int .i64 a4_0, .int .i64 a4_1, .bool a4_2, .bool a4_3, .bool a4_4] from (k78_mkM _ _ _ (⟨a0, (⟨a4_0, a4_1, a4_2, a4_3, a4_4⟩ : S53)⟩ : S78) )) (Reps.c6 (show Kd.M k78 _ _ _ (⟨(-1), (⟨a4_0, a4_1, a4_2, a4_3, a4_4⟩ : S53)⟩ : S78) [.int .i64 (-1), .int .i64 a4_0, .int .i64 a4_1, .bool a4_2, .bool a4_3, .bool a4_4] from (k78_mkM _ _ _ (⟨(-1), (⟨a4_0, a4_1, a4_2, a4_3, a4_4⟩ : S53)⟩ : S78) )) (Reps.none _ _)))); intro v219 w45 ho46 hb hg_ hnew_; clear hg_ hnew_; (first | rw [← Ny218.out] at ho46 | (simp only [Int.reduceToNat] at ho46; rw [← Ny218.out] at ho46)); have n0_ := Aside0.mk (Kd.R_lower (Kd.R_newM (M := fun k_ => (w.heap.size ≤ k_)) ho46 (below_size (by repeat (first | (with_reducible first | exact HB.out | apply below_alloc | apply pw_below_drewN | apply below_drew1 | refine below_set ?_ GE194.out) | exact HB.out))) (fun k_ h_ => h_)) (below_size (by repeat (first | (with_reducible first | exact HB.out | apply below_alloc | apply pw_below_drewN | apply below_drew1 | refine below_set ?_ GE194.out) | exact HB.out)))); have n1_ := Aside0.mk (blk_below (g := gb194) (o := .cells #[.int .i64 a4_0, .int .i64 a4_1, .bool a4_2, .bool a4_3, .bool a4_4] 53 (0, 0)) (by (with_reducible repeat (first | refine blk_drewN ?_ _ | refine blk_drew ?_ | refine blk_alloc ?_ _)); exact BK194.out) hb); have n2_ := Aside0.mk (below_step (by repeat (first | (with_reducible first | exact HB.out | apply below_alloc | apply pw_below_drewN | apply below_drew1 | refine below_set ?_ GE194.out) | exact HB.out)) hb); clear BK194; clear HB; have HO220 := n0_; have BK194 := n1_; have HB := n2_; clear n0_ n1_ n2_; clear hb ho46; obtain ⟨Ao47, co47, eo47⟩ := Kd.R_slice HO220.out; subst eo47) | ((with_reducible refine gate_dst (N := 76) rfl ?_); refine Kd.N_lit k72 _ 72 ?hg (N' := 76) ?hd (xs := ([(⟨y218, a3, false⟩ : S72)] : List (S72))) (inner := [.slice Ao47 y218.length co47, .int .i64 a3, .bool false]) (ok := (fun k_ => (w.heap.size ≤ k_) ∧ k_ ≠ gb194)) (okp := (fun k_ => (w.heap.size ≤ k_) ∧ k_ ≠ gb194)) ?hr ?hp (fun _ hk => hk) ((show ∀ k_, w45.heap.size ≤ k_ → (fun k_ => (w.heap.size ≤ k_) ∧ k_ ≠ gb194) k_ from fun k_ hk => ⟨(Nat.le_trans (below_size (by repeat (first | (with_reducible first | exact HB.out | apply below_alloc | apply pw_below_drewN | apply below_drew1 | refine below_set ?_ GE194.out) | exact HB.out))) hk), Kd.freshB (g := gb194) (o := .cells #[.int .i64 a4_0, .int .i64 a4_1, .bool a4_2, .bool a4_3, .bool a4_4] 53 (0, 0)) (by (with_reducible repeat (first | refine blk_drewN ?_ _ | refine blk_drew ?_ | refine blk_alloc ?_ _)); exact BK194.out) k_ hk⟩) _ (Nat.le_refl _)) (Below.refl _ _) (Nat.le_refl _) (by simp) ?_; (case hd => rfl); (case hg => rfl); (case hr => first | (go_simp; done) | (go_simp; rfl)); (case hp => exact (Reps.c3 (show Kd.FK k72 _ _ (⟨y218, a3, false⟩ : S72) [.slice Ao47 y218.length co47, .int .i64 a3, .bool false] from (k72_mkF _ _ (⟨y218, a3, false⟩ : S72) (Kd.R_reads' (Kd.R_mono (ok' := (fun k_ => (w.heap.size ≤ k_) ∧ k_ ≠ gb194)) (Kd.R_types (HO220.out) BK194.out (by decide)) (fun k_ hk => ⟨hk.1.1, hk.2⟩))).2.1 (Kd.R_F (Kd.R_mono (ok' := (fun k_ => (w.heap.size ≤ k_) ∧ k_ ≠ gb194)) (Kd.R_types (HO220.out) BK194.out (by decide)) (fun k_ hk => ⟨hk.1.1, hk.2⟩))))) (Reps.none _ _))); intro v222 w48 ho49 hb hg_ hnew_; clear hg_ hnew_; (first | rw [← Ny221.out] at ho49 | (simp only [Int.reduceToNat] at ho49; rw [← Ny221.out] at ho49)); have n0_ := Aside0.mk (Kd.N_lower ho49 (below_size (by repeat (first | (with_reducible first | exact HB.out | apply below_alloc | apply pw_below_drewN | apply below_drew1 | refine below_set ?_ GE194.out) | exact HB.out)))); have n1_ := Aside0.mk (blk_below (g := gb194) (o := .cells #[.int .i64 a4_0, .int .i64 a4_1, .bool a4_2, .bool a4_3, .bool a4_4] 53 (0, 0)) (by (with_reducible repeat (first | refine blk_drewN ?_ _ | refine blk_drew ?_ | refine blk_alloc ?_ _)); exact BK194.out) hb); have n2_ := Aside0.mk (below_step (by repeat (first | (with_reducible first | exact HB.out | apply below_alloc | apply pw_below_drewN | apply below_drew1 | refine below_set ?_ GE194.out) | exact HB.out)) hb); clear BK194; clear HB; clear HO220; have HO223 := n0_; have BK194 := n1_; have HB := n2_; clear n0_ n1_ n2_; clear hb ho49))
        go_ret
        exact ⟨_, by first | rfl | (simp [errW_none, errW_some] <;> rfl) | (simp [*, errW_none, errW_some] <;> rfl), by (with_reducible repeat (first | apply Kd.N_alloc | apply Kd.N_drewN | apply Kd.N_drew)); exact Kd.N_mono HO223.out (fun _ hk => hk.1), by repeat (first | (with_reducible first | exact HB.out | apply below_alloc | apply pw_below_drewN | apply below_drew1 | refine below_set ?_ GE194.out) | exact HB.out)⟩
       ·rw [if_neg c41] at H
        have c41b0 : (t217 == 2) = false := beq_eq_false_iff_ne.mpr c41
        have c41b1 : (t217 != 2) = true := bne_iff_ne.mpr c41
        obtain ⟨y224, hy224⟩ : ∃ y_ : List (S78), y_ = (([(⟨a0, (⟨a4_0, a4_1, a4_2, a4_3, a4_4⟩ : S53)⟩ : S78)] : List (S78))) := ⟨_, rfl⟩
        replace H : (some (([(⟨y224, a3, false⟩ : S72)] : List (S72)))) = some r := by first | (rw [hy224]; with_reducible exact H) | (have H2_ := (Option.bind_some _ _).symm.trans H; rw [hy224]; with_reducible exact H2_) | (have H2_ := (Option.bind_some _ _).symm.trans H; with_reducible exact H2_) | with_reducible exact H | (rw [hy224]; exact H) | exact H
        have Ny224 := Aside0.mk hy224
        clear hy224
        obtain ⟨y227, hy227⟩ : ∃ y_ : List (S72), y_ = (([(⟨y224, a3, false⟩ : S72)] : List (S72))) := ⟨_, rfl⟩
        replace H : (some y227) = some r := by first | (rw [hy227]; with_reducible exact H) | (have H2_ := (Option.bind_some _ _).symm.trans H; rw [hy227]; with_reducible exact H2_) | (have H2_ := (Option.bind_some _ _).symm.trans H; with_reducible exact H2_) | with_reducible exact H | (rw [hy227]; exact H) | exact H
        have Ny227 := Aside0.mk hy227
        clear hy227
        obtain rfl := Option.some.inj H
        go_wp2_with (first | ((with_reducible refine gate_callee (f := 57) rfl ?_); refine goesL_ (some 62) rfl rfl Tryd.func57 (by kernel_rfl) rfl #[.int .i64 a0] rfl (by (try simp only [List.map_toArray, List.map_cons, List.map_nil]); first | done | rfl | (simp only [List.length_drop, List.length_take]; rfl)) ?_; (with_reducible refine (copyistref01_Width.calls kj26 a0 t216 _ A37.out).mono ?_); rintro e w50 ⟨rfl, hb⟩; refine ⟨_, rfl, ?_⟩; have n0_ := Aside0.mk (blk_below (g := gb194) (o := .cells #[.int .i64 a4_0, .int .i64 a4_1, .bool a4_2, .bool a4_3, .bool a4_4] 53 (0, 0)) (by (with_reducible repeat (first | refine blk_drewN ?_ _ | refine blk_drew ?_ | refine blk_alloc ?_ _)); exact BK194.out) hb); have n1_ := Aside0.mk (below_step (by repeat (first | (with_reducible first | exact HB.out | apply below_alloc | apply pw_below_drewN | apply below_drew1 | refine below_set ?_ GE194.out) | exact HB.out)) hb); clear BK194; clear HB; have BK194 := n0_; have HB := n1_; clear n0_ n1_; (try clear hb); (try clear hb2); (try clear hk); (try clear hi)) | ((with_reducible refine gate_callee (f := 57) rfl ?_); refine goesL_ (some 66) rfl rfl Tryd.func57 (by kernel_rfl) rfl #[.int .i64 a0] rfl (by (try simp only [List.map_toArray, List.map_cons, List.map_nil]); first | done | rfl | (simp only [List.length_drop, List.length_take]; rfl)) ?_; (with_reducible refine (copyistref01_Width.calls kj26 a0 t217 _ A40.out).mono ?_); rintro e w51 ⟨rfl, hb⟩; refine ⟨_, rfl, ?_⟩; have n0_ := Aside0.mk (blk_below (g := gb194) (o := .cells #[.int .i64 a4_0, .int .i64 a4_1, .bool a4_2, .bool a4_3, .bool a4_4] 53 (0, 0)) (by (with_reducible repeat (first | refine blk_drewN ?_ _ | refine blk_drew ?_ | refine blk_alloc ?_ _)); exact BK194.out) hb); have n1_ := Aside0.mk (below_step (by repeat (first | (with_reducible first | exact HB.out | apply below_alloc | apply pw_below_drewN | apply below_drew1 | refine below_set ?_ GE194.out) | exact HB.out)) hb); clear BK194; clear HB; have BK194 := n0_; have HB := n1_; clear n0_ n1_; (try clear hb); (try clear hb2); (try clear hk); (try clear hi); have hcz52_0 : w51.cell? ⟨gb194, 0, none⟩ = some (.int .i64 a4_0) := (blk_cell BK194.out 0).trans rfl; have hcz52_1 : w51.cell? ⟨gb194, 1, none⟩ = some (.int .i64 a4_1) := (blk_cell BK194.out 1).trans rfl; have hcz52_2 : w51.cell? ⟨gb194, 2, none⟩ = some (.bool a4_2) := (blk_cell BK194.out 2).trans rfl; have hcz52_3 : w51.cell? ⟨gb194, 3, none⟩ = some (.bool a4_3) := (blk_cell BK194.out 3).trans rfl; have hcz52_4 : w51.cell? ⟨gb194, 4, none⟩ = some (.bool a4_4) := (blk_cell BK194.out 4).trans rfl; have hfz52_0 := blk_frozen BK194.out 0; have hfz52_1 := blk_frozen BK194.out 1; have hfz52_2 := blk_frozen BK194.out 2; have hfz52_3 := blk_frozen BK194.out 3; have hfz52_4 := blk_frozen BK194.out 4) | ((with_reducible refine gate_dst (N := 80) rfl ?_); refine Kd.R_lit k78 _ 78 ?hg (N := 80) ?hd (xs := ([(⟨a0, (⟨a4_0, a4_1, a4_2, a4_3, a4_4⟩ : S53)⟩ : S78)] : List (S78))) (inner := [.int .i64 a0, .int .i64 a4_0, .int .i64 a4_1, .bool a4_2, .bool a4_3, .bool a4_4]) (ok := fun _ => True) (okp := fun _ => True) ?hr ?hp (fun _ hk => hk) trivial (Below.refl _ _) (Nat.le_refl _) (by simp) ?_; (case hd => rfl); (case hg => rfl); (case hr => first | (go_simp; done) | (go_simp; rfl)); (case hp => exact (Reps.c6 (show Kd.M k78 _ _ _ (⟨a0, (⟨a4_0, a4_1, a4_2, a4_3, a4_4⟩ : S53)⟩ : S78) [.int .i64 a0, .int .i64 a4_0, .int .i64 a4_1, .bool a4_2, .bool a4_3, .bool a4_4] from (k78_mkM _ _ _ (⟨a0, (⟨a4_0, a4_1, a4_2, a4_3, a4_4⟩ : S53)⟩ : S78) )) (Reps.none _ _))); intro v225 w53 ho54 hb hg_ hnew_; clear hg_ hnew_; (first | rw [← Ny224.out] at ho54 | (simp only [Int.reduceToNat] at ho54; rw [← Ny224.out] at ho54)); have n0_ := Aside0.mk (Kd.R_lower (Kd.R_newM (M := fun k_ => (w.heap.size ≤ k_)) ho54 (below_size (by repeat (first | (with_reducible first | exact HB.out | apply below_alloc | apply pw_below_drewN | apply below_drew1 | refine below_set ?_ GE194.out) | exact HB.out))) (fun k_ h_ => h_)) (below_size (by repeat (first | (with_reducible first | exact HB.out | apply below_alloc | apply pw_below_drewN | apply below_drew1 | refine below_set ?_ GE194.out) | exact HB.out)))); have n1_ := Aside0.mk (blk_below (g := gb194) (o := .cells #[.int .i64 a4_0, .int .i64 a4_1, .bool a4_2, .bool a4_3, .bool a4_4] 53 (0, 0)) (by (with_reducible repeat (first | refine blk_drewN ?_ _ | refine blk_drew ?_ | refine blk_alloc ?_ _)); exact BK194.out) hb); have n2_ := Aside0.mk (below_step (by repeat (first | (with_reducible first | exact HB.out | apply below_alloc | apply pw_below_drewN | apply below_drew1 | refine below_set ?_ GE194.out) | exact HB.out)) hb); clear BK194; clear HB; have HO226 := n0_; have BK194 := n1_; have HB := n2_; clear n0_ n1_ n2_; clear hb ho54; obtain ⟨Ao55, co55, eo55⟩ := Kd.R_slice HO226.out; subst eo55) | ((with_reducible refine gate_dst (N := 83) rfl ?_); refine Kd.N_lit k72 _ 72 ?hg (N' := 83) ?hd (xs := ([(⟨y224, a3, false⟩ : S72)] : List (S72))) (inner := [.slice Ao55 y224.length co55, .int .i64 a3, .bool false]) (ok := (fun k_ => (w.heap.size ≤ k_) ∧ k_ ≠ gb194)) (okp := (fun k_ => (w.heap.size ≤ k_) ∧ k_ ≠ gb194)) ?hr ?hp (fun _ hk => hk) ((show ∀ k_, w53.heap.size ≤ k_ → (fun k_ => (w.heap.size ≤ k_) ∧ k_ ≠ gb194) k_ from fun k_ hk => ⟨(Nat.le_trans (below_size (by repeat (first | (with_reducible first | exact HB.out | apply below_alloc | apply pw_below_drewN | apply below_drew1 | refine below_set ?_ GE194.out) | exact HB.out))) hk), Kd.freshB (g := gb194) (o := .cells #[.int .i64 a4_0, .int .i64 a4_1, .bool a4_2, .bool a4_3, .bool a4_4] 53 (0, 0)) (by (with_reducible repeat (first | refine blk_drewN ?_ _ | refine blk_drew ?_ | refine blk_alloc ?_ _)); exact BK194.out) k_ hk⟩) _ (Nat.le_refl _)) (Below.refl _ _) (Nat.le_refl _) (by simp) ?_; (case hd => rfl); (case hg => rfl); (case hr => first | (go_simp; done) | (go_simp; rfl)); (case hp => exact (Reps.c3 (show Kd.FK k72 _ _ (⟨y224, a3, false⟩ : S72) [.slice Ao55 y224.length co55, .int .i64 a3, .bool false] from (k72_mkF _ _ (⟨y224, a3, false⟩ : S72) (Kd.R_reads' (Kd.R_mono (ok' := (fun k_ => (w.heap.size ≤ k_) ∧ k_ ≠ gb194)) (Kd.R_types (HO226.out) BK194.out (by decide)) (fun k_ hk => ⟨hk.1.1, hk.2⟩))).2.1 (Kd.R_F (Kd.R_mono (ok' := (fun k_ => (w.heap.size ≤ k_) ∧ k_ ≠ gb194)) (Kd.R_types (HO226.out) BK194.out (by decide)) (fun k_ hk => ⟨hk.1.1, hk.2⟩))))) (Reps.none _ _))); intro v228 w56 ho57 hb hg_ hnew_; clear hg_ hnew_; (first | rw [← Ny227.out] at ho57 | (simp only [Int.reduceToNat] at ho57; rw [← Ny227.out] at ho57)); have n0_ := Aside0.mk (Kd.N_lower ho57 (below_size (by repeat (first | (with_reducible first | exact HB.out | apply below_alloc | apply pw_below_drewN | apply below_drew1 | refine below_set ?_ GE194.out) | exact HB.out)))); have n1_ := Aside0.mk (blk_below (g := gb194) (o := .cells #[.int .i64 a4_0, .int .i64 a4_1, .bool a4_2, .bool a4_3, .bool a4_4] 53 (0, 0)) (by (with_reducible repeat (first | refine blk_drewN ?_ _ | refine blk_drew ?_ | refine blk_alloc ?_ _)); exact BK194.out) hb); have n2_ := Aside0.mk (below_step (by repeat (first | (with_reducible first | exact HB.out | apply below_alloc | apply pw_below_drewN | apply below_drew1 | refine below_set ?_ GE194.out) | exact HB.out)) hb); clear BK194; clear HB; clear HO226; have HO229 := n0_; have BK194 := n1_; have HB := n2_; clear n0_ n1_ n2_; clear hb ho57))
        go_ret
        exact ⟨_, by first | rfl | (simp [errW_none, errW_some] <;> rfl) | (simp [*, errW_none, errW_some] <;> rfl), by (with_reducible repeat (first | apply Kd.N_alloc | apply Kd.N_drewN | apply Kd.N_drew)); exact Kd.N_mono HO229.out (fun _ hk => hk.1), by repeat (first | (with_reducible first | exact HB.out | apply below_alloc | apply pw_below_drewN | apply below_drew1 | refine below_set ?_ GE194.out) | exact HB.out)⟩

/-! ### copyistref35_room: function 58 -/
def copyistref35_room.l0 : Nat → List (S72) → Int → Int → Int → Option (Int)
 | 0, _, _, _, _ => none
 | k + 1, x0, x1, x5, x6 => if x6 < (x0.length : Int) then (if 0 ≤ x6 then (if (wrap64 (x5 + (((rd_T72 x0 x6).f0).length : Int))) ≤ (wrap64 (x1 - 1)) then (copyistref35_room.l0 k x0 x1 (wrap64 (x5 + (((rd_T72 x0 x6).f0).length : Int))) (wrap64 (x6 + 1))) else (some x6)) else (none)) else (some x6)
def copyistref35_room.f (k : Nat) (l0 : List (S72)) (a1 : Int) : Option (Int) := copyistref35_room.l0 k l0 a1 0 0
theorem copyistref35_room.mono_l : ∀ k, (∀ y0 y1 y2 y3, LeO (copyistref35_room.l0 k y0 y1 y2 y3) (copyistref35_room.l0 (k + 1) y0 y1 y2 y3))
 | 0 => fun _ _ _ _ r h => by simp [copyistref35_room.l0] at h
 | k + 1 => by
  have ih0 := copyistref35_room.mono_l k
  ·intro y0 y1 y2 y3
   unfold copyistref35_room.l0
   repeat' first
   | (with_reducible exact ih0 _ _ _ _)
   | (with_reducible exact LeO.refl _)
   | (with_reducible exact LeO.none _)
   | (with_reducible refine LeO.ite ?_ ?_)
   | (with_reducible refine LeO.bind ?_ (fun _ => ?_))
   | exact ih0 _ _ _ _
   | exact LeO.none _
   | refine LeO.ite ?_ ?_
   | refine LeO.bind ?_ (fun _ => ?_)
theorem copyistref35_room.mono : ∀ a0 a1 k, LeO (copyistref35_room.f k a0 a1) (copyistref35_room.f (k + 1) a0 a1) := by
 intro a0 a1 k
 have ih0 := copyistref35_room.mono_l k
 unfold copyistref35_room.f
 repeat' first
   | (with_reducible exact ih0 _ _ _ _)
   | (with_reducible exact LeO.refl _)
   | (with_reducible exact LeO.none _)
   | (with_reducible refine LeO.ite ?_ ?_)
   | (with_reducible refine LeO.bind ?_ (fun _ => ?_))
   | exact ih0 _ _ _ _
   | exact LeO.none _
   | refine LeO.ite ?_ ?_
   | refine LeO.bind ?_ (fun _ => ?_)
set_option maxHeartbeats 8000000 in
set_option maxRecDepth 100000 in
theorem copyistref35_room.calls (k : Nat) (A0 : Option Addr) (c0 : Nat) (l0 : List (S72)) (a1 : Int) (r : Int) (w : World) (hr0 : Kd.C k72 w A0 l0.length l0) (hc0 : l0.length ≤ c0) (h : copyistref35_room.f k l0 a1 = some r) :
  Calls Tryd.prog 58 #[.slice A0 l0.length c0, .int .i64 a1] w fun e w' => e = .returned (.int .i64 r) ∧ Drawn0 w w' := by
 have HR0 := Aside0.mk hr0
 have HC0 := Aside0.mk hc0
 clear hr0 hc0
 have H : (copyistref35_room.l0 k l0 a1 0 0) = some r := h
 clear h
 have H' := Aside0.mk H
 clear H
 go_enter Tryd.func58, Tryd.ntmps58
 go_wp2
 go_loopg [5, 6] k (fun kq v5 v6 w' => ∃ (x5_1 : Int) (x6_1 : Int), v5 = .int .i64 x5_1 ∧ v6 = .int .i64 x6_1 ∧ Aside0 (copyistref35_room.l0 kq l0 a1 x5_1 x6_1 = some r) ∧ Aside0 (kq ≤ k) ∧ Drawn0 w w')
 case atStart => exact ⟨(0), (0), (by first | rfl | (simp; done) | (simp [*]; done)), (by first | rfl | (simp; done) | (simp [*]; done)), H', ⟨Nat.le_refl _⟩, by repeat (first | exact Drawn0.refl _ | apply Drawn0.step)⟩
 case round =>
  clear H'
  try clear p2
  obtain ⟨x5_1, x6_1, rfl, rfl, HA, HK1, ⟨m1, rfl⟩⟩ := hrel
  cases gk with
  | zero => exact absurd HA.out (by simp [copyistref35_room.l0])
  | succ k1 =>
   have H := HA.out
   clear HA
   simp only [copyistref35_room.l0] at H
   by_cases c3 : x6_1 < (l0.length : Int)
   ·rw [if_pos c3] at H
    have c3b0 : decide (x6_1 < (l0.length : Int)) = true := decide_eq_true c3
    clear c3
    by_cases c4 : 0 ≤ x6_1
    ·rw [if_pos c4] at H
     have c4b0 : decide (0 ≤ x6_1) = true := decide_eq_true c4
     clear c4
     by_cases c5 : (wrap64 (x5_1 + (((rd_T72 l0 x6_1).f0).length : Int))) ≤ (wrap64 (a1 - 1))
     ·rw [if_pos c5] at H
      have c5b0 : decide ((wrap64 (x5_1 + (((rd_T72 l0 x6_1).f0).length : Int))) ≤ (wrap64 (a1 - 1))) = true := decide_eq_true c5
      clear c5
      have H' := Aside0.mk H
      clear H
      have p230 : 0 ≤ (x6_1 : Int) := of_decide_eq_true (by first | (with_reducible assumption) | assumption)
      have q230 : x6_1 < (l0.length : Int) := of_decide_eq_true (by first | (with_reducible assumption) | assumption)
      obtain ⟨ad230, A230_0, c230_0, e230, hx230_0, hx230_1, hx230_2, hl230_0, hi230_0⟩ := at_T72 HR0.out x6_1 p230 q230
      cases e230
      have HR230_0 := Aside0.mk hi230_0
      have HC230_0 := Aside0.mk hl230_0
      clear hi230_0 hl230_0
      replace p230 := eq_true p230
      replace q230 := eq_true q230
      have p231 : 0 ≤ (x6_1 : Int) := of_decide_eq_true (by first | (with_reducible assumption) | assumption)
      have q231 : x6_1 < (l0.length : Int) := of_decide_eq_true (by first | (with_reducible assumption) | assumption)
      obtain ⟨ad231, A231_0, c231_0, e231, hx231_0, hx231_1, hx231_2, hl231_0, hi231_0⟩ := at_T72 HR0.out x6_1 p231 q231
      obtain rfl : ad230 = ad231 := (by injection e231)
      have HR231_0 := Aside0.mk hi231_0
      have HC231_0 := Aside0.mk hl231_0
      clear hi231_0 hl231_0
      replace p231 := eq_true p231
      replace q231 := eq_true q231
      have ea_ := Option.some.inj (hx230_0.symm.trans hx231_0)
      injection ea_ with ea_ en_ ec_
      subst ea_
      subst ec_
      clear en_
      go_wp2
      go_roundg k1
      case measure => have := HK1.out; omega
      case rel => exact ⟨(wrap64 (x5_1 + (((rd_T72 l0 x6_1).f0).length : Int))), (wrap64 (x6_1 + 1)), (by first | rfl | (simp; done) | (simp [*]; done)), (by first | rfl | (simp; done) | (simp [*]; done)), H', ⟨by have := HK1.out; omega⟩, by repeat (first | exact Drawn0.refl _ | apply Drawn0.step)⟩
     ·rw [if_neg c5] at H
      have c5b0 : decide ((wrap64 (x5_1 + (((rd_T72 l0 x6_1).f0).length : Int))) ≤ (wrap64 (a1 - 1))) = false := decide_eq_false c5
      clear c5
      obtain rfl := Option.some.inj H
      have p230 : 0 ≤ (x6_1 : Int) := of_decide_eq_true (by first | (with_reducible assumption) | assumption)
      have q230 : x6_1 < (l0.length : Int) := of_decide_eq_true (by first | (with_reducible assumption) | assumption)
      obtain ⟨ad230, A230_0, c230_0, e230, hx230_0, hx230_1, hx230_2, hl230_0, hi230_0⟩ := at_T72 HR0.out x6_1 p230 q230
      cases e230
      have HR230_0 := Aside0.mk hi230_0
      have HC230_0 := Aside0.mk hl230_0
      clear hi230_0 hl230_0
      replace p230 := eq_true p230
      replace q230 := eq_true q230
      go_wp2
      go_ret
      exact ⟨by first | rfl | (simp; done) | (simp [*]; done), by repeat (first | exact Drawn0.refl _ | apply Drawn0.step)⟩
    ·rw [if_neg c4] at H
     exact absurd H (by simp)
   ·rw [if_neg c3] at H
    have c3b0 : decide (x6_1 < (l0.length : Int)) = false := decide_eq_false c3
    clear c3
    obtain rfl := Option.some.inj H
    go_wp2
    go_ret
    exact ⟨by first | rfl | (simp; done) | (simp [*]; done), by repeat (first | exact Drawn0.refl _ | apply Drawn0.step)⟩

/-! ### copyistref35_Blank: function 26 -/
def copyistref35_Blank.l0 : Nat → Int → List (S78) → Int → Option ((List (S78)))
 | 0, _, _, _ => none
 | k + 1, x0, x3, x4 => if x4 < x0 then (if x3.length < 4398046511104 then (copyistref35_Blank.l0 k x0 (x3 ++ [(⟨32, (⟨0, 0, false, false, false⟩ : S53)⟩ : S78)]) (wrap64 (x4 + 1))) else (none)) else (some x3)
def copyistref35_Blank.f (k : Nat) (a0 : Int) : Option ((List (S78))) := copyistref35_Blank.l0 k a0 ([] : List (S78)) 0
theorem copyistref35_Blank.mono_l : ∀ k, (∀ y0 y1 y2, LeO (copyistref35_Blank.l0 k y0 y1 y2) (copyistref35_Blank.l0 (k + 1) y0 y1 y2))
 | 0 => fun _ _ _ r h => by simp [copyistref35_Blank.l0] at h
 | k + 1 => by
  have ih0 := copyistref35_Blank.mono_l k
  ·intro y0 y1 y2
   unfold copyistref35_Blank.l0
   repeat' first
   | (with_reducible exact ih0 _ _ _)
   | (with_reducible exact LeO.refl _)
   | (with_reducible exact LeO.none _)
   | (with_reducible refine LeO.ite ?_ ?_)
   | (with_reducible refine LeO.bind ?_ (fun _ => ?_))
   | exact ih0 _ _ _
   | exact LeO.none _
   | refine LeO.ite ?_ ?_
   | refine LeO.bind ?_ (fun _ => ?_)
theorem copyistref35_Blank.mono : ∀ a0 k, LeO (copyistref35_Blank.f k a0) (copyistref35_Blank.f (k + 1) a0) := by
 intro a0 k
 have ih0 := copyistref35_Blank.mono_l k
 unfold copyistref35_Blank.f
 repeat' first
   | (with_reducible exact ih0 _ _ _)
   | (with_reducible exact LeO.refl _)
   | (with_reducible exact LeO.none _)
   | (with_reducible refine LeO.ite ?_ ?_)
   | (with_reducible refine LeO.bind ?_ (fun _ => ?_))
   | exact ih0 _ _ _
   | exact LeO.none _
   | refine LeO.ite ?_ ?_
   | refine LeO.bind ?_ (fun _ => ?_)
set_option maxHeartbeats 8000000 in
set_option maxRecDepth 100000 in
theorem copyistref35_Blank.calls (k : Nat) (a0 : Int) (r : List (S78)) (w : World) (h : copyistref35_Blank.f k a0 = some r) :
  Calls Tryd.prog 26 #[.int .i64 a0] w fun e w' => ∃ v0_ : Value, e = .returned (v0_) ∧ Kd.R k78 78 w' w.heap.size (fun _ => True) v0_ r ∧ Below w.heap.size w w' := by
 have hu78 := Tryd.underlying78
 have HB := Aside0.mk (Below.refl w.heap.size w)
 have H : (copyistref35_Blank.l0 k a0 ([] : List (S78)) 0) = some r := h
 clear h
 have H' := Aside0.mk H
 clear H
 go_enter Tryd.func26, Tryd.ntmps26
 go_wp2
 go_loopg [3, 4] k (fun kq v3 v4 w' => ∃ (x3_1 : List (S78)) (x4_1 : Int), v4 = .int .i64 x4_1 ∧ Aside0 (copyistref35_Blank.l0 kq a0 x3_1 x4_1 = some r) ∧ Aside0 (kq ≤ k) ∧ Aside0 (Kd.R k78 78 w' w.heap.size (fun _ => True) v3 x3_1) ∧ Aside0 (Below w.heap.size w w'))
 case atStart => exact ⟨(([] : List (S78))), (0), (by first | rfl | (simp; done) | (simp [*]; done)), H', ⟨Nat.le_refl _⟩, ⟨by first | exact Kd.R_nil _ _ _ _ _ | exact Kd.N_nil _ _ _ _ _ | exact Kd.V_nil _ _ _ _ _ | exact Kd.Q_nil _ _ _ _ _ | exact Kd.S_nil _ _ _ _ _⟩, ⟨by repeat (first | (with_reducible first | exact HB.out | apply below_alloc | apply pw_below_drewN | apply below_drew1) | exact HB.out)⟩⟩
 case round =>
  clear H'
  obtain ⟨x3_1, x4_1, rfl, HA, HK1, HO_3, HB⟩ := hrel
  cases gk with
  | zero => exact absurd HA.out (by simp [copyistref35_Blank.l0])
  | succ k1 =>
   have H := HA.out
   clear HA
   simp only [copyistref35_Blank.l0] at H
   by_cases c2 : x4_1 < a0
   ·rw [if_pos c2] at H
    have c2b0 : decide (x4_1 < a0) = true := decide_eq_true c2
    clear c2
    by_cases c3 : x3_1.length < 4398046511104
    ·rw [if_pos c3] at H
     have LMc3 := Aside0.mk c3
     clear c3
     obtain ⟨y232, hy232⟩ : ∃ y_ : List (S78), y_ = (x3_1 ++ [(⟨32, (⟨0, 0, false, false, false⟩ : S53)⟩ : S78)]) := ⟨_, rfl⟩
     replace H : (copyistref35_Blank.l0 k1 a0 y232 (wrap64 (x4_1 + 1))) = some r := by first | (rw [hy232]; with_reducible exact H) | (have H2_ := (Option.bind_some _ _).symm.trans H; rw [hy232]; with_reducible exact H2_) | (have H2_ := (Option.bind_some _ _).symm.trans H; with_reducible exact H2_) | with_reducible exact H | (rw [hy232]; exact H) | exact H
     have Ny232 := Aside0.mk hy232
     clear hy232
     have H' := Aside0.mk H
     clear H
     go_wp2_with (first | ((with_reducible refine gate_builtin (b := .append) (xs := #[.tmp 10, .tmp 12]) rfl ?_); at_builtin; refine Kd.R_append k78 (w0 := w) w.heap.size rfl (.tmp 10) (.tmp 12) 36 78 (.agg #[(.int .i64 0), (.int .i64 0), (.int .i64 0), (.bool false), (.bool false), (.bool false)]) 32 rfl Tryd.underlying36 info78 rfl (by decide) (by omega) u3 x3_1 (⟨32, (⟨0, 0, false, false, false⟩ : S53)⟩ : S78) [.int .i64 32, .int .i64 0, .int .i64 0, .bool false, .bool false, .bool false] (fun _ => True) (fun _ => False) rfl rfl ?aP (fun _ hk => hk.elim) ?aF ?aO ?aB ?aS ?aL ?_; (case aP => exact k78_mkM _ _ _ (⟨32, (⟨0, 0, false, false, false⟩ : S53)⟩ : S78)); (case aB => exact (by repeat (first | (with_reducible first | exact HB.out | apply below_alloc | apply pw_below_drewN | apply below_drew1) | exact HB.out))); (case aF => exact (fun _ _ => trivial)); (case aO => exact (by (with_reducible repeat (first | apply Kd.R_alloc | apply Kd.R_drewN | apply Kd.R_drew)); exact HO_3.out)); (case aS => exact (below_size (by repeat (first | (with_reducible first | exact HB.out | apply below_alloc | apply pw_below_drewN | apply below_drew1) | exact HB.out)))); (case aL => have := LMc3.out; omega); intro v233 w4 ho hb hg hat; rw [← Ny232.out] at ho; have n0_ := Aside0.mk (hb); have n1_ := Aside0.mk (ho); clear HB; clear HO_3; have HB := n0_; have HO234 := n1_; clear n0_ n1_; clear ho hb hg hat))
     go_roundg k1
     case measure => have := HK1.out; omega
     case rel => exact ⟨(y232), (wrap64 (x4_1 + 1)), (by first | rfl | (simp; done) | (simp [*]; done)), H', ⟨by have := HK1.out; omega⟩, ⟨by (with_reducible repeat (first | apply Kd.R_alloc | apply Kd.R_drewN | apply Kd.R_drew)); exact HO234.out⟩, ⟨by repeat (first | (with_reducible first | exact HB.out | apply below_alloc | apply pw_below_drewN | apply below_drew1) | exact HB.out)⟩⟩
    ·rw [if_neg c3] at H
     exact absurd H (by simp)
   ·rw [if_neg c2] at H
    have c2b0 : decide (x4_1 < a0) = false := decide_eq_false c2
    clear c2
    obtain rfl := Option.some.inj H
    go_wp2
    go_ret
    exact ⟨_, by first | rfl | (simp [errW_none, errW_some] <;> rfl) | (simp [*, errW_none, errW_some] <;> rfl), by (with_reducible repeat (first | apply Kd.R_alloc | apply Kd.R_drewN | apply Kd.R_drew)); exact HO_3.out, by repeat (first | (with_reducible first | exact HB.out | apply below_alloc | apply pw_below_drewN | apply below_drew1) | exact HB.out)⟩

end Go.Proofs.YtppjgofjjcdcdaaDoor.PLayoutRows
