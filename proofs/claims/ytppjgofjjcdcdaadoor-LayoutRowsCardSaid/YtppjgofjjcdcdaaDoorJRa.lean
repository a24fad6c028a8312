/- copyistref35.Rows: what its loops hold. -/
import Derived.Test.YtppjgofjjcdcdaaDoorJF
import Derived.Test.YtppjgofjjcdcdaaDoorPLayoutRowsx5
import Derived.Lib.ValidLaws
import Derived.Lib.Hide
import Derived.Test.YtppjgofjjcdcdaaDoorJE
import Derived.Lib.IndexBytes
import Derived.Test.YtppjgofjjcdcdaaDoorPLayoutRowsx7
import Derived.Test.YtppjgofjjcdcdaaDoorJG
import Derived.Deep.RegionHeld3
import Derived.IntWalk
set_option linter.unusedVariables false
set_option linter.unusedSimpArgs false
/- The plain law of LayoutRows: laid line by line, and with units behind the first rows dropped, the rows are the program's. -/
namespace Go.Proofs.YtppjgofjjcdcdaaDoor
open PLayoutRows
/-- Units of a line: of one or two cells. -/
def PlainU (us : List Unt) : Prop := ∀ u ∈ us, u.feed = false ∧ 1 ≤ u.cells.length ∧ u.cells.length ≤ 2
def roomF (m : Nat) : Nat → List Unt → Nat
 | _, [] => 0
 | n, u :: us => if n + u.cells.length ≤ m then roomF m (n + u.cells.length) us + 1 else 0
def putU (x : Fil) (u : Unt) : Fil := x.put u.cells u.pos
def finU (width : Nat) (us : List Unt) : Fil := us.foldl putU (newFil width)
theorem room_le (m : Nat) : ∀ (us : List Unt) (n : Nat), roomF m n us ≤ us.length
 | [], _ => by simp [roomF]
 | u :: us, n => by
  unfold roomF
  split
  ·have := room_le m us (n + u.cells.length); simp; omega
  ·simp
theorem room_take (m : Nat) : ∀ (us : List Unt) (n L : Nat), roomF m n (us.take L) = min (roomF m n us) L
 | [], n, L => by simp [roomF]
 | u :: us, n, 0 => by simp [roomF]
 | u :: us, n, L + 1 => by
  have ih := room_take m us (n + u.cells.length) L
  rw [List.take_succ_cons]
  unfold roomF
  split
  ·rw [ih]; omega
  ·simp
theorem room_bound (m : Nat) : ∀ (us : List Unt) (n : Nat), PlainU us → n ≤ m → roomF m n us + n ≤ m
 | [], _, _, h => by simpa [roomF] using h
 | u :: us, n, hp, h => by
  have h1 := hp u (List.mem_cons_self ..)
  unfold roomF
  split
  ·have := room_bound m us (n + u.cells.length) (fun v hv => hp v (List.mem_cons_of_mem _ hv)) (by assumption)
   omega
  ·omega
theorem put_ok_n {x : Fil} {width : Nat} (h : x.Ok width) {u : Unt} (hf : x.n + u.cells.length ≤ width - 1) : (putU x u).Ok width ∧ (putU x u).n = x.n + u.cells.length := by
 have hf' : x.fits u.cells.length = true := decide_eq_true (by rw [h.c]; exact hf)
 refine ⟨put_ok h hf' _, ?_⟩
 obtain ⟨_, _, h3⟩ := puts_len u.cells u.pos (x.at0 u.pos)
 show (Fil.puts (x.at0 u.pos) u.cells u.pos).n = _
 rw [h3, (at0_same x u.pos).2.2]
theorem step_fit {width : Nat} {wrap : Bool} {x : Fil} (h : x.Ok width) {u : Unt} (hu : u.feed = false) (rs : List Row) (hf : x.n + u.cells.length ≤ width - 1) : stepR width wrap ⟨x, false, rs⟩ u = ⟨putU x u, false, rs⟩ := by
 have hf' : x.fits u.cells.length = true := decide_eq_true (by rw [h.c]; exact hf)
 unfold stepR
 rw [if_neg (by rw [hu]; simp), if_neg (by simp), if_pos hf']
 rfl
theorem step_over {width : Nat} {wrap : Bool} {x : Fil} (h : x.Ok width) {u : Unt} (hu : u.feed = false) (rs : List Row) (hf : ¬ x.n + u.cells.length ≤ width - 1) :
  stepR width wrap ⟨x, false, rs⟩ u = if wrap then ⟨putU (newFil width) u, false, rs ++ [rowOf x.cut]⟩ else ⟨x.mark 36, true, rs⟩ := by
 have hf' : ¬ x.fits u.cells.length = true := by
  intro h'
  have := of_decide_eq_true h'
  rw [h.c] at this
  exact hf this
 unfold stepR
 rw [if_neg (by rw [hu]; simp), if_neg (by simp), if_neg hf']
 rfl
theorem step_dead {width : Nat} {wrap : Bool} (x : Fil) {u : Unt} (hu : u.feed = false) (rs : List Row) : stepR width wrap ⟨x, true, rs⟩ u = ⟨x, true, rs⟩ := by
 unfold stepR
 rw [if_neg (by rw [hu]; simp), if_pos rfl]
theorem fold_dead {width : Nat} {wrap : Bool} (x : Fil) (rs : List Row) : ∀ (us : List Unt), PlainU us → us.foldl (stepR width wrap) ⟨x, true, rs⟩ = ⟨x, true, rs⟩
 | [], _ => rfl
 | u :: us, hp => by
  rw [List.foldl_cons, step_dead x (hp u (List.mem_cons_self ..)).1 rs]
  exact fold_dead x rs us (fun v hv => hp v (List.mem_cons_of_mem _ hv))
/-- The units that have space. -/
theorem fold_fit {width : Nat} {wrap : Bool} (rs : List Row) : ∀ (us : List Unt) (x : Fil), x.Ok width → PlainU us →
  us.foldl (stepR width wrap) ⟨x, false, rs⟩ = (us.drop (roomF (width - 1) x.n us)).foldl (stepR width wrap) ⟨(us.take (roomF (width - 1) x.n us)).foldl putU x, false, rs⟩ ∧
  ((us.take (roomF (width - 1) x.n us)).foldl putU x).Ok width ∧
  (∀ u vs, us.drop (roomF (width - 1) x.n us) = u :: vs → ¬ ((us.take (roomF (width - 1) x.n us)).foldl putU x).n + u.cells.length ≤ width - 1)
 | [], x, h, _ => ⟨by simp [roomF], by simpa [roomF] using h, by simp [roomF]⟩
 | u :: us, x, h, hp => by
  have hu := hp u (List.mem_cons_self ..)
  by_cases hf : x.n + u.cells.length ≤ width - 1
  ·have hr : roomF (width - 1) x.n (u :: us) = roomF (width - 1) (x.n + u.cells.length) us + 1 := by
    show (if x.n + u.cells.length ≤ width - 1 then _ else _) = _
    rw [if_pos hf]
   obtain ⟨h1, h2⟩ := put_ok_n h hf
   have ih := fold_fit (wrap := wrap) rs us (putU x u) h1 (fun v hv => hp v (List.mem_cons_of_mem _ hv))
   rw [h2] at ih
   rw [hr, List.drop_succ_cons, List.take_succ_cons, List.foldl_cons, List.foldl_cons, step_fit h hu.1 rs hf]
   exact ih
  ·have hr : roomF (width - 1) x.n (u :: us) = 0 := by
    show (if x.n + u.cells.length ≤ width - 1 then _ else _) = _
    rw [if_neg hf]
   rw [hr, List.drop_zero, List.take_zero, List.foldl_nil]
   refine ⟨rfl, h, ?_⟩
   intro v vs e
   cases e
   exact hf
theorem fold_rows (width : Nat) (wrap : Bool) : ∀ (us : List Unt) (x : Fil) (o : Bool) (rs : List Row),
  us.foldl (stepR width wrap) ⟨x, o, rs⟩ = ⟨(us.foldl (stepR width wrap) ⟨x, o, []⟩).x, (us.foldl (stepR width wrap) ⟨x, o, []⟩).over, rs ++ (us.foldl (stepR width wrap) ⟨x, o, []⟩).rows⟩
 | [], x, o, rs => by simp
 | u :: us, x, o, rs => by
  have key : ∃ x' o' r', ∀ rs, stepR width wrap ⟨x, o, rs⟩ u = ⟨x', o', rs ++ r'⟩ := by
   unfold stepR
   by_cases h1 : u.feed = true
   ·exact ⟨newFil width, false, [rowOf (if o then x else x.end_ u.pos)], fun rs => by rw [if_pos h1]⟩
   ·cases o with
    | true => exact ⟨x, true, [], fun rs => by rw [if_neg h1, if_pos rfl]; simp⟩
    | false =>
     by_cases h2 : x.fits u.cells.length = true
     ·exact ⟨x.put u.cells u.pos, false, [], fun rs => by rw [if_neg h1, if_neg (by simp), if_pos h2]; simp⟩
     ·cases wrap with
      | true => exact ⟨(newFil width).put u.cells u.pos, false, [rowOf x.cut], fun rs => by rw [if_neg h1, if_neg (by simp), if_neg h2, if_pos rfl]⟩
      | false => exact ⟨x.mark 36, true, [], fun rs => by rw [if_neg h1, if_neg (by simp), if_neg h2, if_neg (by simp)]; simp⟩
  obtain ⟨x', o', r', h⟩ := key
  rw [List.foldl_cons, List.foldl_cons, h, h, fold_rows width wrap us x' o' (rs ++ r'), fold_rows width wrap us x' o' ([] ++ r')]
  simp
def endR (to_ : Int) (s : RS) : List Row := s.rows ++ [rowOf (if s.over then s.x else s.x.end_ to_)]
theorem rowsE_endR (width : Nat) (wrap : Bool) (to_ : Int) (us : List Unt) : rowsE width wrap to_ us = endR to_ (us.foldl (stepR width wrap) ⟨newFil width, false, []⟩) := rfl
theorem endR_rows (width : Nat) (wrap : Bool) (to_ : Int) (us : List Unt) (rs : List Row) : endR to_ (us.foldl (stepR width wrap) ⟨newFil width, false, rs⟩) = rs ++ rowsE width wrap to_ us := by
 rw [fold_rows, rowsE_endR]
 unfold endR
 simp
def roomU (width : Nat) (us : List Unt) : Nat := roomF (width - 1) 0 us
/-- A line that has space. -/
theorem laid_fit {width : Nat} (hw : 4 ≤ width) (wrap : Bool) (to_ : Int) {us : List Unt} (hp : PlainU us) (hr : roomU width us = us.length) : rowsE width wrap to_ us = [rowOf ((finU width us).end_ to_)] := by
 obtain ⟨h1, _, _⟩ := fold_fit (width := width) (wrap := wrap) [] us (newFil width) (newFil_ok width (by omega)) hp
 have hr' : roomF (width - 1) (newFil width).n us = us.length := hr
 rw [hr', List.drop_length, List.take_length] at h1
 rw [rowsE_endR, h1]
 rfl
theorem laid_cut {width : Nat} (hw : 4 ≤ width) (to_ : Int) {us : List Unt} (hp : PlainU us) (hr : roomU width us < us.length) : rowsE width false to_ us = [rowOf ((finU width (us.take (roomU width us))).mark 36)] := by
 obtain ⟨h1, h2, h3⟩ := fold_fit (width := width) (wrap := false) [] us (newFil width) (newFil_ok width (by omega)) hp
 have hr' : roomF (width - 1) (newFil width).n us = roomU width us := rfl
 rw [hr'] at h1 h2 h3
 obtain ⟨u, vs, hd⟩ : ∃ u vs, us.drop (roomU width us) = u :: vs := by
  cases h : us.drop (roomU width us) with
  | nil => have := congrArg List.length h; simp at this; omega
  | cons u vs => exact ⟨u, vs, rfl⟩
 have hpd : PlainU (u :: vs) := fun v hv => hp v (List.mem_of_mem_drop (hd ▸ hv))
 have hu := hpd u (List.mem_cons_self ..)
 rw [rowsE_endR, h1, hd, List.foldl_cons, step_over h2 hu.1 [] (h3 u vs hd), if_neg (by simp), fold_dead _ _ vs (fun v hv => hpd v (List.mem_cons_of_mem _ hv))]
 rfl
theorem laid_more {width : Nat} (hw : 4 ≤ width) (to_ : Int) {us : List Unt} (hp : PlainU us) (hr : roomU width us < us.length) :
  rowsE width true to_ us = rowOf (finU width (us.take (roomU width us))).cut :: rowsE width true to_ (us.drop (roomU width us)) := by
 obtain ⟨h1, h2, h3⟩ := fold_fit (width := width) (wrap := true) [] us (newFil width) (newFil_ok width (by omega)) hp
 have hr' : roomF (width - 1) (newFil width).n us = roomU width us := rfl
 rw [hr'] at h1 h2 h3
 obtain ⟨u, vs, hd⟩ : ∃ u vs, us.drop (roomU width us) = u :: vs := by
  cases h : us.drop (roomU width us) with
  | nil => have := congrArg List.length h; simp at this; omega
  | cons u vs => exact ⟨u, vs, rfl⟩
 have hpd : PlainU (u :: vs) := fun v hv => hp v (List.mem_of_mem_drop (hd ▸ hv))
 have hu := hpd u (List.mem_cons_self ..)
 have hnew : stepR width true ⟨newFil width, false, [] ++ [rowOf (finU width (us.take (roomU width us))).cut]⟩ u = ⟨putU (newFil width) u, false, [] ++ [rowOf (finU width (us.take (roomU width us))).cut]⟩ :=
  step_fit (newFil_ok width (by omega)) hu.1 _ (by show 0 + u.cells.length ≤ width - 1; omega)
 have hall : us.foldl (stepR width true) ⟨newFil width, false, []⟩ = (us.drop (roomU width us)).foldl (stepR width true) ⟨newFil width, false, [] ++ [rowOf (finU width (us.take (roomU width us))).cut]⟩ := by
  rw [h1, hd, List.foldl_cons, List.foldl_cons, step_over h2 hu.1 [] (h3 u vs hd), if_pos rfl, hnew]
  rfl
 rw [rowsE_endR, hall, endR_rows]
 rfl
/-- The first rows of a line come of its first units. -/
theorem cut_first {width : Nat} (hw : 4 ≤ width) (to_ : Int) : ∀ (m : Nat) (us : List Unt) (L : Nat), PlainU us → m * width ≤ L → L < us.length →
  (rowsE width true to_ (us.take L)).take m = (rowsE width true to_ us).take m ∧ m ≤ (rowsE width true to_ (us.take L)).length
 | 0, us, L, _, _, _ => by simp
 | m + 1, us, L, hp, hL, hl => by
  have hmw : (m + 1) * width = m * width + width := Nat.succ_mul m width
  have hb := room_bound (width - 1) us 0 hp (by omega)
  have hk : roomU width us ≤ width - 1 := by unfold roomU; omega
  have hpt : PlainU (us.take L) := fun v hv => hp v (List.mem_of_mem_take hv)
  have hpd : PlainU (us.drop (roomU width us)) := fun v hv => hp v (List.mem_of_mem_drop hv)
  have hrt : roomU width (us.take L) = roomU width us := by unfold roomU at hk ⊢; rw [room_take]; omega
  have hlen : (us.take L).length = L := by rw [List.length_take]; omega
  rw [laid_more hw to_ hp (by omega), laid_more hw to_ hpt (by rw [hrt, hlen]; omega), hrt, List.take_take, List.drop_take, Nat.min_eq_left (by omega)]
  have ih := cut_first hw to_ m (us.drop (roomU width us)) (L - roomU width us) hpd (by omega) (by rw [List.length_drop]; omega)
  rw [List.take_succ_cons, List.take_succ_cons, ih.1, List.length_cons]
  exact ⟨rfl, by omega⟩
/-- What the reference's loop over the units has: the rows of the finished lines, and the units of the line at hand that are kept. -/
def refStep (width : Nat) (wrap : Bool) (limit : Nat) (s : List Row × List Unt) (u : Unt) : List Row × List Unt :=
 if u.feed then (s.1 ++ rowsE width wrap u.pos s.2, []) else if s.2.length < limit then (s.1, s.2 ++ [u]) else s
def refS (width : Nat) (wrap : Bool) (limit : Nat) (us : List Unt) : List Row × List Unt := us.foldl (refStep width wrap limit) ([], [])
def refAllStep (width : Nat) (wrap : Bool) (s : List Row × List Unt) (u : Unt) : List Row × List Unt :=
 if u.feed then (s.1 ++ rowsE width wrap u.pos s.2, []) else (s.1, s.2 ++ [u])
def refAll (width : Nat) (wrap : Bool) (us : List Unt) : List Row × List Unt := us.foldl (refAllStep width wrap) ([], [])
theorem refS_snoc (width : Nat) (wrap : Bool) (limit : Nat) (us : List Unt) (u : Unt) : refS width wrap limit (us ++ [u]) = refStep width wrap limit (refS width wrap limit us) u := by simp [refS]
theorem refAll_snoc (width : Nat) (wrap : Bool) (us : List Unt) (u : Unt) : refAll width wrap (us ++ [u]) = refAllStep width wrap (refAll width wrap us) u := by simp [refAll]
theorem snoc_ind {α : Type} {P : List α → Prop} (h0 : P []) (h1 : ∀ l x, P l → P (l ++ [x])) (l : List α) : P l := by
 have key : ∀ n (l : List α), l.length = n → P l := by
  intro n
  induction n with
  | zero => intro l hl; rw [List.length_eq_zero_iff.1 hl]; exact h0
  | succ n ih =>
   intro l hl
   obtain ⟨l0, x, rfl⟩ : ∃ l0 x, l = l0 ++ [x] := ⟨l.dropLast, l.getLast (by intro e; rw [e] at hl; simp at hl), (List.dropLast_concat_getLast _).symm⟩
   exact h1 l0 x (ih l0 (by simpa using hl))
 exact key _ l rfl
theorem rowsS_all (width : Nat) (wrap : Bool) (us : List Unt) : rowsS width wrap us = (refAll width wrap us).2.foldl (stepR width wrap) ⟨newFil width, false, (refAll width wrap us).1⟩ := by
 refine snoc_ind (P := fun us => rowsS width wrap us = (refAll width wrap us).2.foldl (stepR width wrap) ⟨newFil width, false, (refAll width wrap us).1⟩) rfl ?_ us
 intro l u ih
 rw [rowsS_snoc, refAll_snoc]
 unfold refAllStep
 by_cases hu : u.feed = true
 ·rw [if_pos hu, List.foldl_nil]
  show stepR width wrap (rowsS width wrap l) u = (⟨newFil width, false, (refAll width wrap l).1 ++ rowsE width wrap u.pos (refAll width wrap l).2⟩ : RS)
  unfold stepR
  rw [if_pos hu, ← endR_rows, ← ih]
  rfl
 ·rw [if_neg hu, List.foldl_append, ← ih]
  rfl
theorem rowsE_all (width : Nat) (wrap : Bool) (to_ : Int) (us : List Unt) : rowsE width wrap to_ us = (refAll width wrap us).1 ++ rowsE width wrap to_ (refAll width wrap us).2 := by
 rw [← endR_rows, ← rowsS_all]
 rfl
/-- Units as units yields them. -/
def GoodU (us : List Unt) : Prop := ∀ u ∈ us, u.feed = false → 1 ≤ u.cells.length ∧ u.cells.length ≤ 2
theorem refAll_plain (width : Nat) (wrap : Bool) (us : List Unt) (hg : GoodU us) : PlainU (refAll width wrap us).2 := by
 refine snoc_ind (P := fun us => GoodU us → PlainU (refAll width wrap us).2) ?_ ?_ us hg
 ·intro _ u hu; simp [refAll] at hu
 ·intro l u ih hg
  have ih := ih (fun v hv => hg v (List.mem_append_left _ hv))
  rw [refAll_snoc]
  unfold refAllStep
  by_cases hu : u.feed = true
  ·rw [if_pos hu]; intro v hv; simp at hv
  ·rw [if_neg hu]
   intro v hv
   rcases List.mem_append.1 hv with h | h
   ·exact ih v h
   ·rw [List.mem_singleton] at h
    subst h
    have hu' : v.feed = false := by simpa using hu
    exact ⟨hu', hg v (List.mem_append_right _ (List.mem_singleton.2 rfl)) hu'⟩
/-- How many units of a line are kept. -/
def Enough (width : Nat) (wrap : Bool) (most limit : Nat) : Prop := (wrap = true → limit = (most + 1) * width) ∧ (wrap = false → limit = width + 1)
theorem laid_enough {width : Nat} (hw : 4 ≤ width) {wrap : Bool} (to_ : Int) {most limit : Nat} (hl : Enough width wrap most limit) {us : List Unt} (hp : PlainU us) :
  (rowsE width wrap to_ (us.take limit)).take (most + 1) = (rowsE width wrap to_ us).take (most + 1) ∧ (most < (rowsE width wrap to_ (us.take limit)).length ∨ rowsE width wrap to_ (us.take limit) = rowsE width wrap to_ us) := by
 by_cases hlt : limit < us.length
 ·cases wrap with
  | true =>
   obtain ⟨h1, h2⟩ := cut_first hw to_ (most + 1) us limit hp (by rw [hl.1 rfl]; exact Nat.le_refl _) hlt
   exact ⟨h1, .inl (by omega)⟩
  | false =>
   have hl2 := hl.2 rfl
   have hb := room_bound (width - 1) us 0 hp (by omega)
   have hk : roomU width us ≤ width - 1 := by unfold roomU; omega
   have hpt : PlainU (us.take limit) := fun v hv => hp v (List.mem_of_mem_take hv)
   have hrt : roomU width (us.take limit) = roomU width us := by unfold roomU at hk ⊢; rw [room_take]; omega
   have hlen : (us.take limit).length = limit := by rw [List.length_take]; omega
   have : rowsE width false to_ (us.take limit) = rowsE width false to_ us := by
    rw [laid_cut hw to_ hp (by omega), laid_cut hw to_ hpt (by rw [hrt, hlen]; omega), hrt, List.take_take, Nat.min_eq_left (by omega)]
   rw [this]
   exact ⟨rfl, .inr rfl⟩
 ·have : us.take limit = us := List.take_of_length_le (by omega)
  rw [this]
  exact ⟨rfl, .inr rfl⟩
theorem take_app {α : Type} (a b b' : List α) (m : Nat) (h : b.take m = b'.take m) : (a ++ b).take m = (a ++ b').take m := by
 rw [List.take_append, List.take_append]
 congr 1
 have : ∀ (x : List α), x.take (m - a.length) = (x.take m).take (m - a.length) := fun x => by rw [List.take_take, Nat.min_eq_left (by omega)]
 rw [this b, this b', h]
/-- The kept ones agree with all. -/
theorem refS_agree {width : Nat} (hw : 4 ≤ width) {wrap : Bool} {most limit : Nat} (hl : Enough width wrap most limit) (us : List Unt) (hg : GoodU us) :
  (refS width wrap limit us).2 = (refAll width wrap us).2.take limit ∧ (refS width wrap limit us).1.take (most + 1) = (refAll width wrap us).1.take (most + 1) ∧
  (most < (refS width wrap limit us).1.length ∨ (refS width wrap limit us).1 = (refAll width wrap us).1) := by
 refine snoc_ind (P := fun us => GoodU us → (refS width wrap limit us).2 = (refAll width wrap us).2.take limit ∧ (refS width wrap limit us).1.take (most + 1) = (refAll width wrap us).1.take (most + 1) ∧
  (most < (refS width wrap limit us).1.length ∨ (refS width wrap limit us).1 = (refAll width wrap us).1)) ?_ ?_ us hg
 ·intro _; exact ⟨by simp [refS, refAll], by simp [refS, refAll], .inr (by simp [refS, refAll])⟩
 ·intro l u ih hg
  have hg' : GoodU l := fun v hv => hg v (List.mem_append_left _ hv)
  obtain ⟨h1, h2, h3⟩ := ih hg'
  have hp := refAll_plain width wrap l hg'
  rw [refS_snoc, refAll_snoc]
  unfold refStep refAllStep
  by_cases hu : u.feed = true
  ·rw [if_pos hu, if_pos hu]
   obtain ⟨e1, e2⟩ := laid_enough hw u.pos hl hp
   refine ⟨by simp, ?_, ?_⟩
   ·show ((refS width wrap limit l).1 ++ rowsE width wrap u.pos (refS width wrap limit l).2).take (most + 1) = ((refAll width wrap l).1 ++ rowsE width wrap u.pos (refAll width wrap l).2).take (most + 1)
    rcases h3 with h3 | h3
    ·have h4 : most < (refAll width wrap l).1.length := by
      have := congrArg List.length h2
      rw [List.length_take, List.length_take] at this
      omega
     rw [List.take_append_of_le_length (by omega), List.take_append_of_le_length (by omega)]
     exact h2
    ·rw [h3, h1]
     exact take_app _ _ _ _ e1
   ·show most < ((refS width wrap limit l).1 ++ rowsE width wrap u.pos (refS width wrap limit l).2).length ∨ (refS width wrap limit l).1 ++ rowsE width wrap u.pos (refS width wrap limit l).2 = (refAll width wrap l).1 ++ rowsE width wrap u.pos (refAll width wrap l).2
    rcases h3 with h3 | h3
    ·left; rw [List.length_append]; omega
    ·rw [h3, h1]
     rcases e2 with e2 | e2
     ·left; rw [List.length_append]; omega
     ·right; rw [e2]
  ·rw [if_neg hu, if_neg hu]
   by_cases hlim : (refS width wrap limit l).2.length < limit
   ·rw [if_pos hlim]
    refine ⟨?_, h2, h3⟩
    show (refS width wrap limit l).2 ++ [u] = ((refAll width wrap l).2 ++ [u]).take limit
    have hlt : (refAll width wrap l).2.length < limit := by rw [h1, List.length_take] at hlim; omega
    rw [h1, List.take_of_length_le (by omega), List.take_of_length_le (by simp; omega)]
   ·rw [if_neg hlim]
    refine ⟨?_, h2, h3⟩
    show (refS width wrap limit l).2 = ((refAll width wrap l).2 ++ [u]).take limit
    have hge : limit ≤ (refAll width wrap l).2.length := by rw [h1, List.length_take] at hlim; omega
    rw [h1, List.take_append_of_le_length hge]
theorem refAll_pre (width : Nat) (wrap : Bool) (to_ : Int) (U V : List Unt) : (refAll width wrap U).1 <+: rowsE width wrap to_ (U ++ V) := by
 have h1 : (refAll width wrap U).1 <+: (rowsS width wrap U).rows := by
  rw [rowsS_all, fold_rows]
  exact List.prefix_append _ _
 have h2 : (rowsS width wrap (U ++ V)).rows <+: rowsE width wrap to_ (U ++ V) := List.prefix_append _ _
 exact h1.trans ((rowsS_pre width wrap (List.prefix_append U V)).trans h2)
/-- What the reference has behind its loops. -/
def refF (width : Nat) (wrap : Bool) (to_ : Int) (most : Nat) (s : List Row × List Unt) : List Row := if s.1.length ≤ most then s.1 ++ rowsE width wrap to_ s.2 else s.1
theorem ref_first {width : Nat} (hw : 4 ≤ width) {wrap : Bool} (to_ : Int) {most limit : Nat} (hl : Enough width wrap most limit) (U V : List Unt) (hg : GoodU U) (hV : V = [] ∨ most < (refS width wrap limit U).1.length) :
  (refF width wrap to_ most (refS width wrap limit U)).take (most + 1) = (rowsE width wrap to_ (U ++ V)).take (most + 1) := by
 obtain ⟨h1, h2, h3⟩ := refS_agree hw hl U hg
 have hp := refAll_plain width wrap U hg
 unfold refF
 by_cases hm : (refS width wrap limit U).1.length ≤ most
 ·rw [if_pos hm]
  have hV' : V = [] := by rcases hV with h | h; exact h; omega
  have h3' : (refS width wrap limit U).1 = (refAll width wrap U).1 := by rcases h3 with h | h; omega; exact h
  subst hV'
  rw [List.append_nil, rowsE_all width wrap to_ U, h3', h1]
  exact take_app _ _ _ _ (laid_enough hw to_ hl hp).1
 ·rw [if_neg hm, h2]
  obtain ⟨zs, hz⟩ := refAll_pre width wrap to_ U V
  have h4 : most < (refAll width wrap U).1.length := by
   have := congrArg List.length h2
   rw [List.length_take, List.length_take] at this
   omega
  rw [← hz, List.take_append_of_le_length (by omega)]
theorem ref_rows {width : Nat} (hw : 4 ≤ width) {wrap : Bool} (to_ : Int) {most limit : Nat} (hl : Enough width wrap most limit) (U V : List Unt) (hg : GoodU U) (hV : V = [] ∨ most < (refS width wrap limit U).1.length) :
  (tosR to_ (refF width wrap to_ most (refS width wrap limit U))).take most = collectR to_ most (rowsE width wrap to_ (U ++ V)) := by
 have h := ref_first hw to_ hl U V hg hV
 generalize refF width wrap to_ most (refS width wrap limit U) = F at *
 generalize rowsE width wrap to_ (U ++ V) = E at *
 have hget : ∀ i, i ≤ most → F[i]? = E[i]? := by
  intro i hi
  rw [← List.getElem?_take_of_lt (show i < most + 1 by omega), h, List.getElem?_take_of_lt (by omega)]
 apply List.ext_getElem?
 intro i
 rw [collectR_get]
 by_cases hi : i < most
 ·rw [if_pos hi, List.getElem?_take_of_lt hi, tosR_get to_ _ F rfl, hget i (by omega)]
  have : nextF to_ F i = nextF to_ E i := by unfold nextF; rw [hget (i + 1) (by omega)]
  rw [this]
 ·rw [if_neg hi, List.getElem?_eq_none (by rw [List.length_take]; omega)]
theorem oneU_good (tab col : Int) (x : Chr) : GoodU (oneU tab col x).1 := by
 intro u hu hf
 unfold oneU at hu
 split at hu
 ·simp at hu; subst hu; cases hf
 ·split at hu
  ·have := (List.mem_replicate.1 hu).2
   subst this
   exact ⟨Nat.le_refl 1, by show 1 ≤ 2; omega⟩
  ·split at hu
   ·simp at hu
   ·rw [List.mem_singleton] at hu
    subst hu
    refine ⟨?_, cellsP_len _ _⟩
    rename_i h
    show 1 ≤ (cellsP x.c x.look).length
    cases hc : cellsP x.c x.look with
    | nil => exact absurd hc h
    | cons a b => simp
theorem unitsC_good (tab : Int) (xs : List Chr) : GoodU (unitsC tab xs).1 := by
 refine snoc_ind (P := fun xs => GoodU (unitsC tab xs).1) ?_ ?_ xs
 ·intro u hu; simp [unitsC] at hu
 ·intro l x ih u hu
  rw [unitsC_snoc] at hu
  rcases List.mem_append.1 hu with h | h
  ·exact ih u h
  ·exact oneU_good _ _ _ u h
end Go.Proofs.YtppjgofjjcdcdaaDoor

/- The reference's decoder of layer 1: point, List, Valid and Len answer as the model's own decoder does. -/
namespace Go.Proofs.YtppjgofjjcdcdaaDoor
open PLayoutRows
open Go.RowKit Go.Proofs.YtppjgofjjcdcdaaDoorW.PrintWords
theorem wrap_in {x : Int} (h1 : -4611686018427387904 ≤ x) (h2 : x ≤ 4611686018427387904) : wrap64 x = x := by unfold wrap64; omega
theorem bt_getD (s : ByteArray) (i : Nat) : bt s (i : Int) = (((s.data.toList.getD i 0).toNat : Nat) : Int) := by
 unfold bt
 rw [Int.toNat_natCast]
 by_cases h : i < s.size
 ·rw [dif_pos h]
  have h' : i < s.data.toList.length := by simpa using h
  rw [List.getD_eq_getElem?_getD, List.getElem?_eq_getElem h']
  rfl
 ·rw [dif_neg h]
  have h' : s.data.toList.length ≤ i := by simpa using h
  rw [List.getD_eq_getElem?_getD, List.getElem?_eq_none h']
  rfl
theorem tail_f (s : ByteArray) (i : Nat) : copyistref01_tail.f s (i : Int) = some (decide (i < s.size ∧ (s.data.toList.getD i 0).toNat / 64 = 2)) := by
 unfold copyistref01_tail.f
 rw [bt_getD]
 generalize (s.data.toList.getD i 0).toNat = b
 by_cases h : i < s.size
 ·rw [if_pos (by omega), if_pos (by omega)]
  by_cases h1 : (128 : Int) ≤ b
  ·rw [if_pos h1]
   refine congrArg some ?_
   rw [decide_eq_decide]
   omega
  ·rw [if_neg h1]
   refine congrArg some ?_
   symm
   rw [decide_eq_false_iff_not]
   omega
 ·rw [if_neg (by omega)]
  refine congrArg some ?_
  symm
  rw [decide_eq_false_iff_not]
  omega
theorem is_f (c : Int) : copyistref01_Is.f c = some (decide (0 ≤ c ∧ c ≤ 1114111 ∧ (c < 55296 ∨ 57343 < c))) := by
 unfold copyistref01_Is.f
 split
 ·split
  ·split
   ·refine congrArg some ?_; symm; rw [decide_eq_true_eq]; omega
   ·refine congrArg some ?_; rw [decide_eq_decide]; omega
  ·refine congrArg some ?_; symm; rw [decide_eq_false_iff_not]; omega
 ·refine congrArg some ?_; symm; rw [decide_eq_false_iff_not]; omega
theorem regions (b0 : Nat) : b0 < 128 ∨ (128 ≤ b0 ∧ b0 < 194) ∨ (194 ≤ b0 ∧ b0 < 224) ∨ (224 ≤ b0 ∧ b0 < 240) ∨ (240 ≤ b0 ∧ b0 < 245) ∨ 245 ≤ b0 := by omega
theorem wrap_byte {b : Nat} (h : b < 256) : wrap64 (b : Int) = b := wrap_in (by omega) (by omega)
/-- What point answers. -/
def pick (d : Nat × Nat) : Int × Int := if d.1 = 65533 ∧ d.2 = 1 then (0, 0) else ((d.1 : Int), (d.2 : Int))
theorem pick_bad : pick (65533, 1) = (0, 0) := rfl
theorem pick_ok (c n : Nat) (h : n ≠ 1 ∨ c ≠ 65533) : pick (c, n) = ((c : Int), (n : Int)) := by unfold pick; rw [if_neg (by simp; omega)]
def pointP (l : List UInt8) : Int × Int := pick (Lib.decodeL l)
set_option maxRecDepth 100000
set_option maxHeartbeats 4000000 in
theorem point_f (s : ByteArray) (h : 0 < s.size) : copyistref01_point.f 3 s = some (pointP s.data.toList) := by
 have e0 := bt_getD s 0
 have e1 := bt_getD s 1
 have e2 := bt_getD s 2
 have e3 := bt_getD s 3
 have t1 := tail_f s 1
 have t2 := tail_f s 2
 have t3 := tail_f s 3
 have q0 := (s.data.toList.getD 0 0).toNat_lt
 have q1 := (s.data.toList.getD 1 0).toNat_lt
 have q2 := (s.data.toList.getD 2 0).toNat_lt
 have q3 := (s.data.toList.getD 3 0).toNat_lt
 unfold pointP
 rw [Lib.decodeL_N]
 have hl : s.data.toList.length = s.size := by simp
 rw [hl]
 generalize (s.data.toList.getD 0 0).toNat = b0 at *
 generalize (s.data.toList.getD 1 0).toNat = b1 at *
 generalize (s.data.toList.getD 2 0).toNat = b2 at *
 generalize (s.data.toList.getD 3 0).toNat = b3 at *
 have e0' : bt s 0 = (b0 : Int) := e0
 have e1' : bt s 1 = (b1 : Int) := e1
 have e2' : bt s 2 = (b2 : Int) := e2
 have e3' : bt s 3 = (b3 : Int) := e3
 have t1' : copyistref01_tail.f s 1 = some (decide (1 < s.size ∧ b1 / 64 = 2)) := t1
 have t2' : copyistref01_tail.f s 2 = some (decide (2 < s.size ∧ b2 / 64 = 2)) := t2
 have t3' : copyistref01_tail.f s 3 = some (decide (3 < s.size ∧ b3 / 64 = 2)) := t3
 have n0 : ((0 : Nat) : Int) < s.size := by omega
 have nn : (0 : Int) < s.size := by omega
 have w0 := wrap_byte q0
 have w1 := wrap_byte q1
 have w2 := wrap_byte q2
 have w3 := wrap_byte q3
 clear e0 e1 e2 e3 t1 t2 t3
 have hc := regions b0
 have W0 := Lib.hid e0'
 have W1 := Lib.hid e1'
 have W2 := Lib.hid e2'
 have W3 := Lib.hid e3'
 clear e0' e1' e2' e3' hl n0
 unfold copyistref01_point.f
 rw [if_pos nn, W0.out, w0]
 rcases hc with hc | hc | hc | hc | hc | hc
 ·have hd : Lib.decodeN s.size b0 b1 b2 b3 = (b0, 1) := by unfold Lib.decodeN; rw [if_pos hc]
  rw [hd, if_pos (by omega), pick_ok _ _ (by omega)]
  rfl
 ·have a1 : ¬ (b0 : Int) ≥ 224 := by omega
  have a2 : ¬ (b0 : Int) ≥ 240 := by omega
  rw [if_neg (by omega), if_neg (by omega), Lib.decodeN_bad _ _ _ _ _ (by omega), pick_bad]
  simp [copyistref01_point.j0, copyistref01_point.j1, copyistref01_point.j2, a1, a2]
 ·rw [if_neg (by omega), if_pos (by omega), if_pos (by omega), t1', Option.bind_some]
  have a1 : ¬ (b0 : Int) ≥ 224 := by omega
  have a2 : ¬ (b0 : Int) ≥ 240 := by omega
  by_cases h1 : 1 < s.size ∧ b1 / 64 = 2
  ·have hd : Lib.decodeN s.size b0 b1 b2 b3 = (b0 % 32 * 64 + b1 % 64, 2) := by
    unfold Lib.decodeN
    rw [if_neg (by omega), if_pos (by omega), if_pos (by omega)]
   rw [decide_eq_true h1, hd, pick_ok _ _ (by omega)]
   simp only [copyistref01_point.j0, if_true]
   rw [if_pos (by omega), W1.out, w1]
   simp (disch := omega) only [wrap_in]
   refine congrArg some (Prod.ext ?_ rfl)
   show ((b0 : Int) - 192) * 64 + b1 - 128 = ((b0 % 32 * 64 + b1 % 64 : Nat) : Int)
   omega
  ·have hd : Lib.decodeN s.size b0 b1 b2 b3 = (65533, 1) := by
    unfold Lib.decodeN
    rw [if_neg (by omega), if_neg (by omega), if_neg (by omega), if_neg (by omega)]
   rw [decide_eq_false h1, hd, pick_bad]
   simp [copyistref01_point.j0, copyistref01_point.j1, copyistref01_point.j2, a1, a2]
 ·rw [if_neg (by omega), if_pos (by omega), if_neg (by omega)]
  have a1 : (b0 : Int) ≥ 224 := by omega
  have a1' : (b0 : Int) < 240 := by omega
  have a2 : ¬ (b0 : Int) ≥ 240 := by omega
  by_cases h1 : 1 < s.size ∧ b1 / 64 = 2
  ·by_cases h2 : 2 < s.size ∧ b2 / 64 = 2
   ·have hj : copyistref01_point.j0 3 s b0 false = copyistref01_point.j1 2 s b0 true := by
     simp [copyistref01_point.j0, a1, a1', t1', t2', decide_eq_true h1, decide_eq_true h2]
    obtain ⟨c, hcc⟩ : ∃ c : Nat, b0 % 16 * 4096 + b1 % 64 * 64 + b2 % 64 = c := ⟨_, rfl⟩
    have hd : Lib.decodeN s.size b0 b1 b2 b3 = if c ≥ 2048 ∧ (c < 55296 ∨ (57344 ≤ c ∧ c ≤ 1114111)) then (c, 3) else (65533, 1) := by
     unfold Lib.decodeN
     rw [if_neg (by omega), if_neg (by omega), if_pos ⟨by omega, h1, h2⟩, hcc]
    rw [hj, hd]
    simp only [copyistref01_point.j1, if_true]
    rw [if_pos (by omega), if_pos (by omega), W1.out, w1, W2.out, w2]
    simp (disch := omega) only [wrap_in]
    have hci : ((((b0 : Int) - 224) * 64 + b1 - 128) * 64 + b2 - 128) = (c : Int) := by omega
    rw [hci, is_f, Option.bind_some]
    have hcl : c < 65536 := by omega
    clear hci hcc hd hj
    by_cases h3 : c ≥ 2048 ∧ (c < 55296 ∨ (57344 ≤ c ∧ c ≤ 1114111))
    ·rw [if_pos h3, pick_ok _ _ (by omega), if_pos (by omega), decide_eq_true (by omega), if_pos rfl]
     rfl
    ·rw [if_neg h3, pick_bad]
     split
     ·rw [decide_eq_false (by omega)]; rfl
     ·rfl
   ·have hd : Lib.decodeN s.size b0 b1 b2 b3 = (65533, 1) := by
     unfold Lib.decodeN
     rw [if_neg (by omega), if_neg (by omega), if_neg (by omega), if_neg (by omega)]
    rw [hd, pick_bad]
    simp [copyistref01_point.j0, copyistref01_point.j1, copyistref01_point.j2, a1, a1', a2, t1', t2', decide_eq_true h1, decide_eq_false h2]
  ·have hd : Lib.decodeN s.size b0 b1 b2 b3 = (65533, 1) := by
    unfold Lib.decodeN
    rw [if_neg (by omega), if_neg (by omega), if_neg (by omega), if_neg (by omega)]
   rw [hd, pick_bad]
   simp [copyistref01_point.j0, copyistref01_point.j1, copyistref01_point.j2, a1, a1', a2, t1', decide_eq_false h1]
 ·rw [if_neg (by omega), if_pos (by omega), if_neg (by omega)]
  have a1 : (b0 : Int) ≥ 224 := by omega
  have a1' : ¬ (b0 : Int) < 240 := by omega
  have a2 : (b0 : Int) ≥ 240 := by omega
  have a2' : (b0 : Int) < 245 := by omega
  have hj : copyistref01_point.j0 3 s b0 false = copyistref01_point.j1 2 s b0 false := by
   simp [copyistref01_point.j0, a1, a1']
  rw [hj]
  by_cases h1 : 1 < s.size ∧ b1 / 64 = 2
  ·by_cases h2 : 2 < s.size ∧ b2 / 64 = 2
   ·by_cases h3 : 3 < s.size ∧ b3 / 64 = 2
    ·have hj : copyistref01_point.j1 2 s b0 false = copyistref01_point.j2 1 s b0 true := by
      simp [copyistref01_point.j1, a2, a2', t1', t2', t3', decide_eq_true h1, decide_eq_true h2, decide_eq_true h3]
     obtain ⟨c, hcc⟩ : ∃ c : Nat, b0 % 8 * 262144 + b1 % 64 * 4096 + b2 % 64 * 64 + b3 % 64 = c := ⟨_, rfl⟩
     have hd : Lib.decodeN s.size b0 b1 b2 b3 = if c ≥ 65536 ∧ (c < 55296 ∨ (57344 ≤ c ∧ c ≤ 1114111)) then (c, 4) else (65533, 1) := by
      unfold Lib.decodeN
      rw [if_neg (by omega), if_neg (by omega), if_neg (by omega), if_pos ⟨by omega, h1, h2, h3⟩, hcc]
     rw [hj, hd]
     simp only [copyistref01_point.j2, if_true]
     rw [if_pos (by omega), if_pos (by omega), if_pos (by omega), W1.out, w1, W2.out, w2, W3.out, w3]
     simp (disch := omega) only [wrap_in]
     have hci : ((((((b0 : Int) - 240) * 64 + b1 - 128) * 64 + b2 - 128) * 64) + b3 - 128) = (c : Int) := by omega
     rw [hci, is_f, Option.bind_some]
     clear hci hcc hd hj
     by_cases h4 : c ≥ 65536 ∧ (c < 55296 ∨ (57344 ≤ c ∧ c ≤ 1114111))
     ·rw [if_pos h4, pick_ok _ _ (by omega), if_pos (by omega), decide_eq_true (by omega), if_pos rfl]
      rfl
     ·rw [if_neg h4, pick_bad]
      split
      ·rw [decide_eq_false (by omega)]; rfl
      ·rfl
    ·have hd : Lib.decodeN s.size b0 b1 b2 b3 = (65533, 1) := by
      unfold Lib.decodeN
      rw [if_neg (by omega), if_neg (by omega), if_neg (by omega), if_neg (by omega)]
     rw [hd, pick_bad]
     simp [copyistref01_point.j1, copyistref01_point.j2, a2, a2', t1', t2', t3', decide_eq_true h1, decide_eq_true h2, decide_eq_false h3]
   ·have hd : Lib.decodeN s.size b0 b1 b2 b3 = (65533, 1) := by
     unfold Lib.decodeN
     rw [if_neg (by omega), if_neg (by omega), if_neg (by omega), if_neg (by omega)]
    rw [hd, pick_bad]
    simp [copyistref01_point.j1, copyistref01_point.j2, a2, a2', t1', t2', decide_eq_true h1, decide_eq_false h2]
  ·have hd : Lib.decodeN s.size b0 b1 b2 b3 = (65533, 1) := by
    unfold Lib.decodeN
    rw [if_neg (by omega), if_neg (by omega), if_neg (by omega), if_neg (by omega)]
   rw [hd, pick_bad]
   simp [copyistref01_point.j1, copyistref01_point.j2, a2, a2', t1', decide_eq_false h1]
 ·have a1 : (b0 : Int) ≥ 224 := by omega
  have a1' : ¬ (b0 : Int) < 240 := by omega
  have a2' : ¬ (b0 : Int) < 245 := by omega
  rw [if_neg (by omega), if_pos (by omega), if_neg (by omega), Lib.decodeN_bad _ _ _ _ _ (by omega), pick_bad]
  simp [copyistref01_point.j0, copyistref01_point.j1, copyistref01_point.j2, a1, a1', a2']
end Go.Proofs.YtppjgofjjcdcdaaDoor

/- The reference's List, Valid and Len, in the words of the program's side. -/
namespace Go.Proofs.YtppjgofjjcdcdaaDoor
open PLayoutRows
open Go.RowKit Go.Proofs.YtppjgofjjcdcdaaDoorW.PrintWords
def runesL : Nat → List UInt8 → List Int
 | 0, _ => []
 | n + 1, l => if l = [] then [] else ((Lib.decodeL l).1 : Int) :: runesL n (l.drop (Lib.decodeL l).2)
theorem runesFrom_L (s : ByteArray) : ∀ n k, runesFrom s n k = runesL n (s.data.toList.drop k)
 | 0, _ => rfl
 | n + 1, k => by
  unfold runesFrom runesL
  have hl : s.data.toList.length = s.size := by simp
  by_cases h : k < s.size
  ·rw [if_pos h, if_neg (by intro e; have := congrArg List.length e; rw [List.length_drop] at this; simp at this; omega), Lib.decodeL_drop, runesFrom_L s n, List.drop_drop]
  ·rw [if_neg h, if_pos (List.drop_eq_nil_of_le (by omega))]
theorem pick_nz {d : Nat × Nat} (h : 1 ≤ d.2) : (pick d).2 = 0 ↔ d.1 = 65533 ∧ d.2 = 1 := by
 unfold pick
 split
 ·simp; assumption
 ·rename_i hn
  constructor
  ·intro h0; have : (d.2 : Int) = 0 := h0; omega
  ·intro h0; exact absurd h0 hn
set_option maxHeartbeats 1000000 in
theorem list_l (n : Nat) : ∀ (s : ByteArray) (x : List Int) (k : Nat), s.size ≤ n → x.length + n < 17592186044416 → n + 5 ≤ k →
  copyistref01_List.l0 k s x = some (if validP s = true then (x ++ runesL n s.data.toList, 0) else ([], 5)) := by
 induction n with
 | zero =>
  intro s x k hs hx hk
  obtain ⟨k, rfl⟩ : ∃ m, k = m + 1 := ⟨k - 1, by omega⟩
  have hl : s.data.toList.length = s.size := by simp
  have h0 : s.data.toList = [] := List.eq_nil_of_length_eq_zero (by omega)
  simp only [copyistref01_List.l0]
  unfold validP
  rw [if_neg (by omega), h0, Lib.validD_nil, if_pos rfl]
  simp [runesL]
 | succ n ih =>
  intro s x k hs hx hk
  obtain ⟨k, rfl⟩ : ∃ m, k = m + 1 := ⟨k - 1, by omega⟩
  have hl : s.data.toList.length = s.size := by simp
  simp only [copyistref01_List.l0]
  unfold validP
  by_cases h0 : s.size = 0
  ·have h1 : s.data.toList = [] := List.eq_nil_of_length_eq_zero (by omega)
   rw [if_neg (by omega), h1, Lib.validD_nil, if_pos rfl]
   simp [runesL]
  ·have hne : s.data.toList ≠ [] := by intro e; rw [e] at hl; simp at hl; omega
   have hp : copyistref01_point.f k s = some (pointP s.data.toList) := at_rounds (g := fun k => copyistref01_point.f k s) (fun k => copyistref01_point.mono s k) (show 3 ≤ k by omega) (point_f s (by omega))
   have hw := Lib.decodeL_width s.data.toList
   have hle := Lib.decodeL_le s.data.toList hne
   have hst := Lib.validD_step s.data.toList hne
   have hnz := pick_nz hw
   rw [if_pos (by omega), hp, Option.bind_some]
   unfold pointP
   by_cases hb : (Lib.decodeL s.data.toList).1 = 65533 ∧ (Lib.decodeL s.data.toList).2 = 1
   ·rw [if_pos (hnz.2 hb), hst, if_pos hb, if_neg (by simp)]
   ·have hpk : pick (Lib.decodeL s.data.toList) = (((Lib.decodeL s.data.toList).1 : Int), ((Lib.decodeL s.data.toList).2 : Int)) := by unfold pick; rw [if_neg hb]
    rw [if_neg (fun h => hb (hnz.1 h)), hpk, if_pos (by omega), if_pos (by simp), if_pos (by simp; omega), Int.toNat_natCast, hst, if_neg hb]
    have hd : (s.extract (Lib.decodeL s.data.toList).2 s.size).data.toList = s.data.toList.drop (Lib.decodeL s.data.toList).2 := Lib.extract_to_end s _
    have hsz : (s.extract (Lib.decodeL s.data.toList).2 s.size).size = s.size - (Lib.decodeL s.data.toList).2 := by simp
    rw [ih _ _ k (by rw [hsz]; omega) (by simp; omega) (by omega)]
    unfold validP
    rw [hd]
    congr 1
    split
    ·show _ = (x ++ runesL (n + 1) s.data.toList, 0)
     rw [show runesL (n + 1) s.data.toList = ((Lib.decodeL s.data.toList).1 : Int) :: runesL n (s.data.toList.drop (Lib.decodeL s.data.toList).2) by
      show (if s.data.toList = [] then [] else _) = _
      rw [if_neg hne]]
     simp
    ·rfl
theorem list_f (s : ByteArray) (hs : s.size ≤ 1000000000) : copyistref01_List.f (s.size + 5) s = some (if validP s = true then (runesP s, 0) else ([], 5)) := by
 unfold copyistref01_List.f
 rw [list_l s.size s [] (s.size + 5) (Nat.le_refl _) (by simp; omega) (Nat.le_refl _)]
 unfold runesP
 rw [runesFrom_L, List.drop_zero, List.nil_append]
theorem runesP_count (s : ByteArray) : (runesP s).length = Lib.runeCount s := by
 unfold runesP Lib.runeCount
 have key : ∀ n k, (runesFrom s n k).length = Lib.runeCountFrom s n k := by
  intro n
  induction n with
  | zero => intro k; rfl
  | succ n ih =>
   intro k
   unfold runesFrom Lib.runeCountFrom
   split
   ·rw [List.length_cons, ih]; omega
   ·rfl
 exact key _ _
/-- copyistref01.Valid. -/
theorem rvalid_any (s : ByteArray) (w : World) (hs : s.size ≤ 1000000000) : Calls Tryd.prog 40 #[.string s] w fun e w' => e = .returned (.bool (validP s)) ∧ Below w.heap.size w w' := by
 refine copyistref01_Valid.calls (s.size + 5) s (validP s) w ?_
 unfold copyistref01_Valid.f
 rw [list_f s hs, Option.bind_some]
 congr 1
 cases validP s <;> rfl
/-- copyistref01.Len. -/
theorem rlen_any (s : ByteArray) (w : World) (hs : s.size ≤ 1000000000) : Calls Tryd.prog 41 #[.string s] w fun e w' => e = .returned (.int .i64 (if validP s = true then Lib.runeCount s else 0)) ∧ Below w.heap.size w w' := by
 refine copyistref01_Len.calls (s.size + 5) s _ w ?_
 unfold copyistref01_Len.f
 rw [list_f s hs, Option.bind_some]
 congr 1
 cases validP s
 ·rfl
 ·show ((runesP s).length : Int) = _
  rw [runesP_count]; rfl
/-- copyistref01.List of a valid string. -/
theorem rlist_any (s : ByteArray) (w : World) (hs : s.size ≤ 1000000000) (hv : validP s = true) : Calls Tryd.prog 36 #[.string s] w fun e w' => ∃ v : Value, e = .returned (.tuple #[v, .int .i64 0]) ∧ Kd.R (Kd.int .i64) 3 w' w.heap.size (fun _ => True) v (runesP s) ∧ Below w.heap.size w w' := by
 refine copyistref01_List.calls (s.size + 5) s (runesP s) 0 w ?_
 rw [list_f s hs, hv]
 rfl
end Go.Proofs.YtppjgofjjcdcdaaDoor

/- The reference's Width and one, in the words of the program's side. -/
namespace Go.Proofs.YtppjgofjjcdcdaaDoor
open PLayoutRows
open Go.RowKit Go.Proofs.YtppjgofjjcdcdaaDoorW.PrintWords
/-- Spans one behind the other. -/
def Sorted2 : List (Int × Int) → Bool
 | [] => true
 | p :: S => decide (p.1 ≤ p.2) && (S.all fun q => decide (p.2 < q.1)) && Sorted2 S
def anySp (c : Int) (S : List (Int × Int)) : Bool := S.any fun p => decide (p.1 ≤ c) && decide (c ≤ p.2)
theorem range_count (S : List (Int × Int)) (p : Int × Int) (f : Int × Int → Bool) : (List.range (p :: S).length).countP (fun i => f ((p :: S).getD i (0, 0))) = (if f p = true then 1 else 0) + (List.range S.length).countP (fun i => f (S.getD i (0, 0))) := by
 rw [List.length_cons, List.range_succ_eq_map, List.countP_cons, List.countP_map]
 simp only [List.getD_cons_zero, Function.comp_def, List.getD_cons_succ]
 omega
theorem hi_of (S : List (Int × Int)) (p : Int × Int) (h : Sorted2 (p :: S) = true) : ∀ q ∈ S, p.2 < q.1 ∧ q.1 ≤ q.2 := by
 induction S generalizing p with
 | nil => intro q hq; simp at hq
 | cons r S ih =>
  simp only [Sorted2, Bool.and_eq_true, List.all_eq_true, decide_eq_true_eq] at h
  obtain ⟨⟨_, h2⟩, ⟨h3, h4⟩, h5⟩ := h
  intro q hq
  have hq2 := h2 q hq
  rcases List.mem_cons.1 hq with rfl | hq'
  ·exact ⟨hq2, h3⟩
  ·have := ih r (by simp only [Sorted2, Bool.and_eq_true, List.all_eq_true, decide_eq_true_eq]; exact ⟨⟨h3, h4⟩, h5⟩) q hq'
   exact ⟨hq2, this.2⟩
theorem inSp_any (c : Int) : ∀ S : List (Int × Int), Sorted2 S = true → inSp c S = anySp c S
 | [], _ => rfl
 | p :: S, h => by
  have hq := hi_of S p h
  have hS : Sorted2 S = true := by simp only [Sorted2, Bool.and_eq_true] at h; exact h.2
  have ih := inSp_any c S hS
  have hc := range_count S p (fun q => !decide (c ≤ q.2))
  unfold inSp at ih ⊢
  simp only at ih ⊢
  rw [hc]
  by_cases h1 : c ≤ p.2
  ·have h0 : (List.range S.length).countP (fun i => !decide (c ≤ (S.getD i (0, 0)).2)) = 0 := by
    rw [List.countP_eq_zero]
    intro i hi
    have hi' : i < S.length := List.mem_range.1 hi
    have hm : S.getD i (0, 0) ∈ S := by rw [List.getD_eq_getElem?_getD, List.getElem?_eq_getElem hi']; exact List.getElem_mem hi'
    have := hq _ hm
    have h2 : c ≤ (S.getD i (0, 0)).2 := by omega
    rw [decide_eq_true h2]
    simp
   rw [h0]
   have hn : anySp c S = false := by
    unfold anySp
    rw [List.any_eq_false]
    intro q hqm
    have := hq q hqm
    have h2 : ¬ q.1 ≤ c := by omega
    rw [decide_eq_false h2]
    simp
   have : anySp c (p :: S) = ((decide (p.1 ≤ c) && decide (c ≤ p.2)) || anySp c S) := rfl
   rw [this, hn, decide_eq_true h1]
   simp
  ·have : anySp c (p :: S) = ((decide (p.1 ≤ c) && decide (c ≤ p.2)) || anySp c S) := rfl
   rw [this, decide_eq_false h1, ← ih, if_pos (by simp)]
   simp only [Bool.and_false, Bool.false_or, List.length_cons]
   generalize (List.range S.length).countP (fun i => !decide (c ≤ (S.getD i (0, 0)).2)) = m
   rw [Nat.add_comm 1 m, List.getD_cons_succ]
   congr 1
   rw [decide_eq_decide]
   omega
def flatS (S : List (Int × Int)) : List Int := S.flatMap fun p => [p.1, p.2]
theorem flatS_len (S : List (Int × Int)) : (flatS S).length = 2 * S.length := by
 induction S with
 | nil => rfl
 | cons p S ih => simp only [flatS, List.flatMap_cons, List.length_append, List.length_cons, List.length_nil] at *; omega
theorem flatS_at (S : List (Int × Int)) : ∀ j, j < S.length → (flatS S).getD (2 * j) 0 = (S.getD j (0, 0)).1 ∧ (flatS S).getD (2 * j + 1) 0 = (S.getD j (0, 0)).2 := by
 induction S with
 | nil => intro j h; simp at h
 | cons p S ih =>
  intro j h
  cases j with
  | zero => exact ⟨rfl, rfl⟩
  | succ j =>
   have := ih j (by simpa using h)
   have e : flatS (p :: S) = p.1 :: p.2 :: flatS S := rfl
   rw [e, show 2 * (j + 1) = 2 * j + 1 + 1 by omega, show 2 * j + 1 + 1 + 1 = (2 * j + 1) + 1 + 1 by omega]
   simp only [List.getD_cons_succ]
   exact this
theorem in_l (c : Int) (S : List (Int × Int)) (hS : S.length ≤ 1000) (d : Nat) : ∀ (j k : Nat), j + d = S.length → d < k → copyistref01_in.l0 k c (flatS S) (2 * j : Nat) = some (anySp c (S.drop j)) := by
 induction d with
 | zero =>
  intro j k hj hk
  obtain ⟨k, rfl⟩ : ∃ m, k = m + 1 := ⟨k - 1, by omega⟩
  have hl := flatS_len S
  have w1 : wrap64 (((2 * j : Nat) : Int) + 1) = ((2 * j : Nat) : Int) + 1 := wrap_in (by omega) (by omega)
  simp only [copyistref01_in.l0]
  rw [w1, if_neg (by omega), List.drop_of_length_le (by omega)]
  rfl
 | succ d ih =>
  intro j k hj hk
  obtain ⟨k, rfl⟩ : ∃ m, k = m + 1 := ⟨k - 1, by omega⟩
  have hl := flatS_len S
  have w1 : wrap64 (((2 * j : Nat) : Int) + 1) = ((2 * j + 1 : Nat) : Int) := wrap_in (by omega) (by omega)
  have w2 : wrap64 (((2 * j : Nat) : Int) + 2) = ((2 * (j + 1) : Nat) : Int) := wrap_in (by omega) (by omega)
  obtain ⟨a1, a2⟩ := flatS_at S j (by omega)
  have r1 : rd (flatS S) ((2 * j : Nat) : Int) = (S.getD j (0, 0)).1 := by unfold rd; rw [Int.toNat_natCast]; exact a1
  have r2 : rd (flatS S) ((2 * j + 1 : Nat) : Int) = (S.getD j (0, 0)).2 := by unfold rd; rw [Int.toNat_natCast]; exact a2
  have hdrop : S.drop j = S.getD j (0, 0) :: S.drop (j + 1) := by
   rw [List.drop_eq_getElem_cons (by omega)]
   simp [show j < S.length by omega]
  have ih := ih (j + 1) k (by omega) (by omega)
  simp only [copyistref01_in.l0]
  rw [w1, w2, r1, r2, if_pos (by omega), if_pos (by omega), if_pos (by omega), ih, hdrop]
  have e : anySp c (S.getD j (0, 0) :: S.drop (j + 1)) = ((decide ((S.getD j (0, 0)).1 ≤ c) && decide (c ≤ (S.getD j (0, 0)).2)) || anySp c (S.drop (j + 1))) := rfl
  rw [e]
  by_cases h1 : (S.getD j (0, 0)).1 ≤ c
  ·rw [if_pos h1, if_pos (by omega), decide_eq_true h1]
   by_cases h2 : c ≤ (S.getD j (0, 0)).2
   ·rw [if_pos h2, decide_eq_true h2]; rfl
   ·rw [if_neg h2, decide_eq_false h2]; rfl
  ·rw [if_neg h1, decide_eq_false h1]; rfl
theorem in_f (c : Int) (S : List (Int × Int)) (hS : S.length ≤ 1000) (hs : Sorted2 S = true) (k : Nat) (hk : S.length < k) : copyistref01_in.f k c (flatS S) = some (inSp c S) := by
 rw [inSp_any c S hs]
 exact in_l c S hS S.length 0 k (by omega) hk
theorem width_f (c : Int) : copyistref01_Width.f 20 c = some (widthP c) := by
 have e1 : ([0, 8, 10, 31, 127, 127, 4352, 4447, 11904, 12350, 12353, 42191, 44032, 55203, 63744, 64255, 65072, 65135, 65280, 65376, 65504, 65510, 127744, 128591, 129280, 129535, 131072, 262141] : List Int) = flatS twoS := by kernel_rfl
 have e2 : ([768, 879, 1155, 1161, 1425, 1469, 8203, 8207, 8400, 8447, 65024, 65039, 65056, 65071] : List Int) = flatS zeroS := by kernel_rfl
 unfold copyistref01_Width.f
 rw [e1, e2, is_f, in_f c zeroS (by decide) (by kernel_rfl) 20 (by decide)]
 simp only [Option.bind_some]
 have hi : decide (0 ≤ c ∧ c ≤ 1114111 ∧ (c < 55296 ∨ 57343 < c)) = isC c := by unfold isC; rw [decide_eq_decide]; omega
 rw [hi]
 unfold widthP
 have j1 : copyistref01_Width.j0 20 c (flatS twoS) true = some 0 := by simp [copyistref01_Width.j0]
 have j2 : copyistref01_Width.j0 20 c (flatS twoS) false = some (if inSp c twoS = true then 2 else 1) := by
  simp only [copyistref01_Width.j0]
  rw [if_neg (by simp), in_f c twoS (by decide) (by kernel_rfl) 19 (by decide), Option.bind_some]
  split <;> rfl
 cases h : isC c with
 | false => rw [if_neg (by simp), j1, if_pos (.inl rfl)]
 | true =>
  rw [if_pos rfl]
  cases h2 : inSp c zeroS with
  | true => rw [j1, if_pos (.inr rfl)]
  | false =>
   rw [j2]
   show _ = some (if true = false ∨ false = true then 0 else if inSp c twoS = true then 2 else 1)
   rw [if_neg (by simp : ¬ (true = false ∨ false = true))]
abbrev UntS := S72
def toS (u : Unt) : UntS := ⟨u.cells, u.pos, u.feed⟩
theorem look_eta (l : Look) : (⟨l.f0, l.f1, l.f2, l.f3, l.f4⟩ : Look) = l := rfl
theorem tab_l (col tab pos : Int) (l : Look) (h1 : 1 ≤ tab) (h2 : tab ≤ 64) (h3 : 0 ≤ col) (h4 : col ≤ 1000000000) (d : Nat) :
  ∀ (n k : Nat), n + d = (tabN tab col).toNat → (n = 0 → d ≠ 0) → d < k → copyistref35_one.l0 k col tab pos ((List.replicate n (⟨[⟨32, l⟩], pos, false⟩ : Unt)).map toS) (col + n) l.f0 l.f1 l.f2 l.f3 l.f4 = some ((List.replicate (tabN tab col).toNat (⟨[⟨32, l⟩], pos, false⟩ : Unt)).map toS) := by
 have hp := tabN_pos tab col h1 h3
 have hmod : ∀ n : Nat, (n : Int) ≤ tabN tab col → n ≠ 0 → ((col + n).tmod tab = 0 ↔ (n : Int) = tabN tab col) := by
  intro n hn hn0
  rw [Int.tmod_eq_emod_of_nonneg (by omega)]
  unfold tabN at hn ⊢
  have e1 := Int.emod_lt_of_pos col (show 0 < tab by omega)
  have e2 := Int.emod_nonneg col (show tab ≠ 0 by omega)
  have e3 : (col + n) % tab = (col % tab + n) % tab := by rw [Int.emod_add_emod]
  rw [e3]
  constructor
  ·intro h
   rcases Int.lt_or_le (col % tab + n) tab with h' | h'
   ·rw [Int.emod_eq_of_lt (by omega) h'] at h; omega
   ·omega
  ·intro h
   rw [show col % tab + (n : Int) = tab by omega]
   exact Int.emod_self
 induction d with
 | zero =>
  intro n k hn h0 hk
  obtain ⟨k, rfl⟩ : ∃ m, k = m + 1 := ⟨k - 1, by omega⟩
  have hn0 : n ≠ 0 := fun e => h0 e rfl
  simp only [copyistref35_one.l0]
  rw [if_neg (by omega), if_neg (by omega), if_pos ((hmod n (by omega) hn0).2 (by omega)), show n = (tabN tab col).toNat by omega]
 | succ d ih =>
  intro n k hn h0 hk
  obtain ⟨k, rfl⟩ : ∃ m, k = m + 1 := ⟨k - 1, by omega⟩
  have w1 : wrap64 (col + (n : Int) + 1) = col + ((n + 1 : Nat) : Int) := by rw [wrap_in (by omega) (by omega)]; omega
  have ih := ih (n + 1) k (by omega) (by omega) (by omega)
  have hlen : ((List.replicate n (⟨[⟨32, l⟩], pos, false⟩ : Unt)).map toS).length < 3518437208883 := by simp; omega
  have happ : (List.replicate n (⟨[⟨32, l⟩], pos, false⟩ : Unt)).map toS ++ [(⟨[⟨32, ⟨l.f0, l.f1, l.f2, l.f3, l.f4⟩⟩], pos, false⟩ : UntS)] = (List.replicate (n + 1) (⟨[⟨32, l⟩], pos, false⟩ : Unt)).map toS := by
   rw [List.replicate_succ', List.map_append]
   rfl
  simp only [copyistref35_one.l0]
  rw [w1, happ, ih]
  by_cases hn0 : n = 0
  ·rw [if_pos (by omega), if_pos hlen]
  ·rw [if_neg (by omega), if_neg (by omega), if_neg (fun h => by have := (hmod n (by omega) hn0).1 h; omega), if_pos hlen]
theorem one_f (c col tab pos : Int) (l : Look) (h1 : 1 ≤ tab) (h2 : tab ≤ 64) (h3 : 0 ≤ col) (h4 : col ≤ 1000000000) :
  copyistref35_one.f 66 c col tab pos l.f0 l.f1 l.f2 l.f3 l.f4 = some ((oneU tab col ⟨c, pos, l⟩).1.map toS) := by
 unfold copyistref35_one.f oneU
 have hp := tabN_pos tab col h1 h3
 by_cases c1 : c = 10
 ·rw [if_pos c1, if_pos c1]; rfl
 ·rw [if_neg c1, if_neg c1]
  by_cases c2 : c = 9
  ·rw [if_pos c2, if_pos c2]
   have := tab_l col tab pos l h1 h2 h3 h4 (tabN tab col).toNat 0 66 (by omega) (by omega) (by omega)
   simp only [List.replicate_zero, List.map_nil, Int.natCast_zero, Int.add_zero] at this
   exact this
  ·rw [if_neg c2, if_neg c2]
   have hw : ∀ k, 20 ≤ k → copyistref01_Width.f k c = some (widthP c) := fun k hk => at_rounds (g := fun k => copyistref01_Width.f k c) (fun k => copyistref01_Width.mono c k) hk (width_f c)
   have j1 : copyistref35_one.j1 66 c pos true l.f0 l.f1 l.f2 l.f3 l.f4 = some [(⟨[⟨94, l⟩, ⟨xorP c, l⟩], pos, false⟩ : UntS)] := by
    simp only [copyistref35_one.j1]
    rfl
   have hcell : cellsP c l = if ctl c then [⟨94, l⟩, ⟨xorP c, l⟩] else if widthP c = 0 then [] else if widthP c = 2 then [⟨c, l⟩, ⟨-1, l⟩] else [⟨c, l⟩] := rfl
   cases hctl : ctl c with
   | true =>
    rw [hctl, if_pos rfl] at hcell
    have hx : (if c < 32 then copyistref35_one.j1 66 c pos true l.f0 l.f1 l.f2 l.f3 l.f4 else copyistref35_one.j1 66 c pos (c == 127) l.f0 l.f1 l.f2 l.f3 l.f4) = copyistref35_one.j1 66 c pos true l.f0 l.f1 l.f2 l.f3 l.f4 := by
     split
     ·rfl
     ·rename_i h
      unfold ctl at hctl
      rw [decide_eq_false h, Bool.false_or] at hctl
      rw [hctl]
    rw [hx, j1]
    show _ = some ((if cellsP c l = [] then _ else _ : List Unt × Int).1.map toS)
    rw [hcell, if_neg (by simp)]
    rfl
   | false =>
    rw [hctl, if_neg (by simp)] at hcell
    have hx : (if c < 32 then copyistref35_one.j1 66 c pos true l.f0 l.f1 l.f2 l.f3 l.f4 else copyistref35_one.j1 66 c pos (c == 127) l.f0 l.f1 l.f2 l.f3 l.f4) = copyistref35_one.j1 66 c pos false l.f0 l.f1 l.f2 l.f3 l.f4 := by
     unfold ctl at hctl
     rw [Bool.or_eq_false_iff, decide_eq_false_iff_not] at hctl
     rw [if_neg hctl.1, hctl.2]
    have j0 : copyistref35_one.j1 66 c pos false l.f0 l.f1 l.f2 l.f3 l.f4 = if widthP c = 0 then some [] else if widthP c = 2 then some [(⟨[⟨c, l⟩, ⟨-1, l⟩], pos, false⟩ : UntS)] else some [(⟨[⟨c, l⟩], pos, false⟩ : UntS)] := by
     simp only [copyistref35_one.j1]
     rw [if_neg (by simp), hw 65 (by omega)]
     rfl
    rw [hx, j0]
    show _ = some ((if cellsP c l = [] then _ else _ : List Unt × Int).1.map toS)
    rw [hcell]
    by_cases w0 : widthP c = 0
    ·rw [if_pos w0, if_pos w0, if_pos rfl]; rfl
    ·rw [if_neg w0, if_neg w0]
     by_cases w2 : widthP c = 2
     ·rw [if_pos w2, if_pos w2, if_neg (by simp)]; rfl
     ·rw [if_neg w2, if_neg w2, if_neg (by simp)]; rfl
/-- copyistref35.one. -/
theorem one_any (c col tab pos : Int) (l : Look) (w : World) (h1 : 1 ≤ tab) (h2 : tab ≤ 64) (h3 : 0 ≤ col) (h4 : col ≤ 1000000000) :
  Calls Tryd.prog 37 #[.int .i64 c, .int .i64 col, .int .i64 tab, .int .i64 pos, .agg #[.int .i64 l.f0, .int .i64 l.f1, .bool l.f2, .bool l.f3, .bool l.f4]] w fun e w' =>
   ∃ v : Value, e = .returned v ∧ Kd.N k72 72 w' w.heap.size (fun k => w.heap.size ≤ k) v ((oneU tab col ⟨c, pos, l⟩).1.map toS) ∧ Below w.heap.size w w' :=
 copyistref35_one.calls 66 c col tab pos l.f0 l.f1 l.f2 l.f3 l.f4 _ w (one_f c col tab pos l h1 h2 h3 h4)
end Go.Proofs.YtppjgofjjcdcdaaDoor

/- copyistref35.row: a line's cells, or the first of them, as a row. -/
namespace Go.Proofs.YtppjgofjjcdcdaaDoor
open PLayoutRows
open Go.RowKit Go.Proofs.YtppjgofjjcdcdaaDoorW.PrintWords Go.Proofs.YtppjgofjjcdcdaaDoorW.PrintMore
/-- copyistref35.room. -/
theorem room_l (us : List Unt) (width : Nat) (hw : 4 ≤ width) (hw2 : width ≤ 1000) (hp : PlainU us) (hlen : us.length ≤ 1000000000) (d : Nat) : ∀ (j n k : Nat), j + d = us.length → d < k → n ≤ 2 * j → n ≤ width →
  copyistref35_room.l0 k (us.map toS) width n j = some ((j + roomF (width - 1) n (us.drop j) : Nat) : Int) := by
 induction d with
 | zero =>
  intro j n k hj hk hn hnw
  obtain ⟨k, rfl⟩ : ∃ m, k = m + 1 := ⟨k - 1, by omega⟩
  simp only [copyistref35_room.l0]
  rw [if_neg (by simp; omega), List.drop_of_length_le (by omega)]
  rfl
 | succ d ih =>
  intro j n k hj hk hn hnw
  obtain ⟨k, rfl⟩ : ∃ m, k = m + 1 := ⟨k - 1, by omega⟩
  have hj' : j < us.length := by omega
  have c1 : (j : Int) < (((us.map toS).length : Nat) : Int) := by rw [List.length_map]; omega
  have c2 : (0 : Int) ≤ (j : Int) := by omega
  have hdrop : us.drop j = us[j] :: us.drop (j + 1) := List.drop_eq_getElem_cons hj'
  have hu := hp us[j] (List.getElem_mem hj')
  have hrd : rd_T72 (us.map toS) (j : Int) = toS us[j] := by simp [rd_T72, hj']
  have w1 : wrap64 ((n : Int) + ((toS us[j]).f0.length : Int)) = ((n + us[j].cells.length : Nat) : Int) := by
   show wrap64 ((n : Int) + (us[j].cells.length : Int)) = _
   rw [wrap_in (by omega) (by omega)]; simp
  have w2 : wrap64 ((width : Int) - 1) = ((width - 1 : Nat) : Int) := by rw [wrap_in (by omega) (by omega)]; omega
  have w3 : wrap64 ((j : Int) + 1) = ((j + 1 : Nat) : Int) := by rw [wrap_in (by omega) (by omega)]; simp
  simp only [copyistref35_room.l0]
  rw [if_pos c1, if_pos c2, hrd, w1, w2, w3, hdrop]
  clear w1 w2 w3 hrd hdrop
  by_cases hf : n + us[j].cells.length ≤ width - 1
  ·rw [if_pos (by omega), ih (j + 1) (n + us[j].cells.length) k (by omega) (by omega) (by omega) (by omega)]
   have : roomF (width - 1) n (us[j] :: us.drop (j + 1)) = roomF (width - 1) (n + us[j].cells.length) (us.drop (j + 1)) + 1 := by
    show (if n + us[j].cells.length ≤ width - 1 then _ else _) = _
    rw [if_pos hf]
   rw [this]
   congr 2
   omega
  ·rw [if_neg (by omega)]
   have : roomF (width - 1) n (us[j] :: us.drop (j + 1)) = 0 := by
    show (if n + us[j].cells.length ≤ width - 1 then _ else _) = _
    rw [if_neg hf]
   rw [this]
   rfl
theorem room_any (A : Option Addr) (c : Nat) (us : List Unt) (width : Nat) (w : World) (hC : Kd.C k72 w A (us.map toS).length (us.map toS)) (hc : (us.map toS).length ≤ c) (hw : 4 ≤ width) (hw2 : width ≤ 1000) (hp : PlainU us) (hlen : us.length ≤ 1000000000) :
  Calls Tryd.prog 58 #[.slice A (us.map toS).length c, .int .i64 width] w fun e w' => e = .returned (.int .i64 (roomU width us)) ∧ Drawn0 w w' := by
 refine copyistref35_room.calls (us.length + 1) A c (us.map toS) width (roomU width us) w hC hc ?_
 have := room_l us width hw hw2 hp hlen us.length 0 0 (us.length + 1) (by omega) (by omega) (by omega) (by omega)
 rw [List.drop_zero, Nat.zero_add] at this
 exact this
theorem blank_l (width : Nat) (hw : width ≤ 1000) (d : Nat) : ∀ (j k : Nat), j + d = width → d < k → copyistref35_Blank.l0 k width (blankP j) j = some (blankP width) := by
 induction d with
 | zero =>
  intro j k hj hk
  obtain ⟨k, rfl⟩ : ∃ m, k = m + 1 := ⟨k - 1, by omega⟩
  simp only [copyistref35_Blank.l0]
  rw [if_neg (by omega), show j = width by omega]
 | succ d ih =>
  intro j k hj hk
  obtain ⟨k, rfl⟩ : ∃ m, k = m + 1 := ⟨k - 1, by omega⟩
  have w3 : wrap64 ((j : Int) + 1) = ((j + 1 : Nat) : Int) := by rw [wrap_in (by omega) (by omega)]; simp
  have hs : blankP j ++ [(⟨32, ⟨0, 0, false, false, false⟩⟩ : Cell)] = blankP (j + 1) := by simp [blankP, blankC, List.replicate_succ']
  simp only [copyistref35_Blank.l0]
  rw [if_pos (by omega), if_pos (by simp [blankP]; omega), w3, hs, ih (j + 1) k (by omega) (by omega)]
theorem rblank_any (width : Nat) (hw : width ≤ 1000) (w : World) : Calls Tryd.prog 26 #[.int .i64 width] w fun e w' => ∃ v0_ : Value, e = .returned (v0_) ∧ Kd.R k78 78 w' w.heap.size (fun _ => True) v0_ (blankP width) ∧ Below w.heap.size w w' := by
 refine copyistref35_Blank.calls (width + 1) width (blankP width) w ?_
 exact blank_l width hw width 0 (width + 1) (by omega) (by omega)
/-- What row holds: its two slices, its boxes. -/
structure RwS (w : World) (b r : Nat) (vc vp : Value) (cs : List Cell) (P : List Int) (fr : Int) (wr : World) : Prop where
 cR : Kd.R k78 78 wr w.heap.size (fun _ => True) vc cs
 pR : Kd.R (Kd.int .i64) 3 wr w.heap.size (fun _ => True) vp P
 bB : wr.heap[b]? = some (.cells #[.slice none 0 0, .slice none 0 0, .int .i64 0, .int .i64 0, .bool false] 39 (0, 0))
 rB : wr.heap[r]? = some (.cells #[vc, vp, .int .i64 fr, .int .i64 0, .bool false] 39 (0, 0))
 bl : Below w.heap.size w wr
 lb : w.heap.size ≤ b
 lr : w.heap.size ≤ r
 ne : b ≠ r
theorem rw_start (w w1 : World) (v : Value) (n : Nat) (end_ : Int) (h1 : Kd.R k78 78 w1 (w.heap.size + 1) (fun _ => True) v (blankP n))
  (h2 : Below (w.heap.size + 1) (w.alloc (.cells #[.slice none 0 0, .slice none 0 0, .int .i64 0, .int .i64 0, .bool false] 39)) w1) :
  RwS w w.heap.size w1.heap.size v (.slice none 0 0) (blankP n) [] end_ (w1.alloc (.cells #[v, .slice none 0 0, .int .i64 end_, .int .i64 0, .bool false] 39)) := by
 have hs := h2.size
 rw [World.size_alloc] at hs
 exact ⟨Kd.R_alloc (Kd.R_lower h1 (by omega)) _, Kd.R_nil _ _ _ _ _, hd_alloc ((h2.block _ (by omega)).trans (World.alloc_heap_new _ _)), World.alloc_heap_new _ _,
  below_alloc (below_step (below_alloc (Below.refl _ _) _) (by rw [World.size_alloc]; exact h2)) _, Nat.le_refl _, by omega, by omega⟩
theorem rw_append {w wr w1 : World} {b r : Nat} {vc vp v1 : Value} {cs : List Cell} {P : List Int} {fr x : Int} (h : RwS w b r vc vp cs P fr wr) (h1 : Kd.R (Kd.int .i64) 3 w1 w.heap.size (fun _ => True) v1 (P ++ [x]))
  (hb : Below w.heap.size w w1) (hg : wr.grownBy w1 vp.ownBlock) : RwS w b r vc v1 cs (P ++ [x]) fr (w1.setCell ⟨r, 1, none⟩ v1) := by
 have hr := blk_grown h.rB hg (Kd.R_ne h.pR h.rB (by decide))
 have hbb := blk_grown h.bB hg (Kd.R_ne h.pR h.bB (by decide))
 refine ⟨?_, ?_, hs_other hbb h.ne, (hs_same hr).trans rfl, hb.setCell h.lr _, h.lb, h.lr, h.ne⟩
 ·exact Kd.R_mono (Kd.R_far (p := ⟨r, 1, none⟩) (Kd.R_types (Kd.R_over' h.cR (Kd.R_typed h.pR) (by decide) hg) hr (by decide)) (fun _ hk => hk.2) v1) (fun _ _ => trivial)
 ·exact Kd.R_mono (Kd.R_far (p := ⟨r, 1, none⟩) (Kd.R_types h1 hr (by decide)) (fun _ hk => hk.2) v1) (fun _ _ => trivial)
theorem room_all {width : Nat} : ∀ (us : List Unt) (x : Fil), x.Ok width → PlainU us → roomF (width - 1) x.n us = us.length → ∀ i (hi : i < us.length), ((us.take i).foldl putU x).Ok width ∧ ((us.take i).foldl putU x).n + us[i].cells.length ≤ width - 1 ∧ (us.take (i + 1)).foldl putU x = putU ((us.take i).foldl putU x) us[i]
 | [], x, _, _, _, i, hi => by simp at hi
 | u :: us, x, hx, hp, hr, 0, _ => by
  have h1 : x.n + u.cells.length ≤ width - 1 := by
   unfold roomF at hr
   split at hr
   ·assumption
   ·simp at hr
  exact ⟨hx, h1, rfl⟩
 | u :: us, x, hx, hp, hr, i + 1, hi => by
  unfold roomF at hr
  split at hr
  ·rename_i h1
   obtain ⟨h2, h3⟩ := put_ok_n hx h1
   have ih := room_all us (putU x u) h2 (fun v hv => hp v (List.mem_cons_of_mem _ hv)) (by rw [h3]; simpa using hr) i (by simpa using hi)
   exact ih
  ·simp at hr
theorem fin_at {width : Nat} (hw : 1 ≤ width) {us : List Unt} (hp : PlainU us) (hr : roomU width us = us.length) (i : Nat) (hi : i < us.length) :
  (finU width (us.take i)).Ok width ∧ (finU width (us.take i)).n + us[i].cells.length ≤ width - 1 ∧ finU width (us.take (i + 1)) = putU (finU width (us.take i)) us[i] :=
 room_all us (newFil width) (newFil_ok width hw) hp hr i hi
theorem fin_ok {width : Nat} (hw : 1 ≤ width) {us : List Unt} (hp : PlainU us) (hr : roomU width us = us.length) : (finU width us).Ok width := by
 rcases Nat.eq_zero_or_pos us.length with h | h
 ·rw [List.length_eq_zero_iff.1 h]; exact newFil_ok width hw
 ·obtain ⟨h1, h2, h3⟩ := fin_at hw hp hr (us.length - 1) (by omega)
  rw [show us.length - 1 + 1 = us.length by omega, List.take_length] at h3
  rw [h3]
  exact (put_ok_n h1 h2).1
theorem puts_same (cs : List Cell) (pos : Int) : ∀ (x y : Fil), x.cells = y.cells → x.pos = y.pos → x.n = y.n → (x.puts cs pos).cells = (y.puts cs pos).cells ∧ (x.puts cs pos).pos = (y.puts cs pos).pos ∧ (x.puts cs pos).n = (y.puts cs pos).n := by
 induction cs with
 | nil => intro x y h1 h2 h3; exact ⟨h1, h2, h3⟩
 | cons c cs ih =>
  intro x y h1 h2 h3
  exact ih (x.add1 c pos) (y.add1 c pos) (by simp [Fil.add1, h1, h3]) (by simp [Fil.add1, h2, h3]) (by simp [Fil.add1, h3])
theorem putU_same (x : Fil) (u : Unt) : (x.puts u.cells u.pos).cells = (putU x u).cells ∧ (x.puts u.cells u.pos).pos = (putU x u).pos ∧ (x.puts u.cells u.pos).n = (putU x u).n := by
 have h0 := at0_same x u.pos
 exact puts_same u.cells u.pos x (x.at0 u.pos) h0.1.symm h0.2.1.symm h0.2.2.symm
theorem fin_fr (width : Nat) : ∀ (us : List Unt) (x : Fil), x.n ≠ 0 → (us.foldl putU x).fr = x.fr
 | [], x, _ => rfl
 | u :: us, x, h => by
  have h0 : x.at0 u.pos = x := by unfold Fil.at0; rw [if_neg h]
  have hf : ∀ (cs : List Cell) (x : Fil), (x.puts cs u.pos).fr = x.fr := by
   intro cs
   induction cs with
   | nil => intro x; rfl
   | cons c cs ih => intro x; exact ih (x.add1 c u.pos)
  have h1 : (putU x u).n = x.n + u.cells.length := by
   obtain ⟨_, _, h3⟩ := puts_len u.cells u.pos (x.at0 u.pos)
   show (Fil.puts (x.at0 u.pos) u.cells u.pos).n = _
   rw [h3, (at0_same x u.pos).2.2]
  have h2 : (putU x u).fr = x.fr := by
   show (Fil.puts (x.at0 u.pos) u.cells u.pos).fr = _
   rw [hf, h0]
  rw [List.foldl_cons, fin_fr width us (putU x u) (by omega), h2]
theorem finU_fr {width : Nat} {u : Unt} {us : List Unt} (h : 1 ≤ u.cells.length) : (finU width (u :: us)).fr = u.pos := by
 have hf : ∀ (cs : List Cell) (x : Fil), (x.puts cs u.pos).fr = x.fr := by
  intro cs
  induction cs with
  | nil => intro x; rfl
  | cons c cs ih => intro x; exact ih (x.add1 c u.pos)
 have h1 : (putU (newFil width) u).n = 0 + u.cells.length := by
  obtain ⟨_, _, h3⟩ := puts_len u.cells u.pos ((newFil width).at0 u.pos)
  show (Fil.puts ((newFil width).at0 u.pos) u.cells u.pos).n = _
  rw [h3, (at0_same (newFil width) u.pos).2.2]; rfl
 have h2 : (putU (newFil width) u).fr = u.pos := by
  show (Fil.puts ((newFil width).at0 u.pos) u.cells u.pos).fr = _
  rw [hf]; rfl
 show (us.foldl putU (putU (newFil width) u)).fr = _
 rw [fin_fr width us _ (by omega), h2]
theorem rw_from {w wr : World} {b r : Nat} {vc vp : Value} {cs : List Cell} {P : List Int} {fr x : Int} (h : RwS w b r vc vp cs P fr wr) : RwS w b r vc vp cs P x (wr.setCell ⟨r, 2, none⟩ (.int .i64 x)) :=
 ⟨Kd.R_mono (Kd.R_far (p := ⟨r, 2, none⟩) (Kd.R_types h.cR h.rB (by decide)) (fun _ hk => hk.2) _) (fun _ _ => trivial), Kd.R_mono (Kd.R_far (p := ⟨r, 2, none⟩) (Kd.R_types h.pR h.rB (by decide)) (fun _ hk => hk.2) _) (fun _ _ => trivial),
  hs_other h.bB h.ne, (hs_same h.rB).trans rfl, h.bl.setCell h.lr _, h.lb, h.lr, h.ne⟩
theorem rw_drew {w wr : World} {b r : Nat} {vc vp : Value} {cs : List Cell} {P : List Int} {fr : Int} (h : RwS w b r vc vp cs P fr wr) : RwS w b r vc vp cs P fr wr.drew :=
 ⟨Kd.R_drew h.cR, Kd.R_drew h.pR, h.bB, h.rB, below_drew h.bl, h.lb, h.lr, h.ne⟩
theorem rw_pos {w wr : World} {b r g cap m : Nat} {vc : Value} {cs : List Cell} {P : List Int} {fr : Int} (h : RwS w b r vc (.slice (some ⟨g, 0, none⟩) m cap) cs P fr wr) (hm : P.length = m) (hg : w.heap.size ≤ g) (i : Nat) (x : Int) :
  RwS w b r vc (.slice (some ⟨g, 0, none⟩) m cap) cs (P.set i x) fr (wr.setCell ⟨g, i, none⟩ (.int .i64 x)) := by
 subst hm
 have hx := Kd.R_put (enc := Value.int .i64) (h1 := fun _ => rfl) h.pR (i : Int) x
 rw [Int.toNat_natCast] at hx
 obtain ⟨cells, hgb⟩ := Kd.R_typed h.pR g rfl
 have nr : g ≠ r := by rintro rfl; rw [h.rB] at hgb; cases hgb
 have nb : g ≠ b := by rintro rfl; rw [h.bB] at hgb; cases hgb
 refine ⟨?_, hx.1, hs_other h.bB (Ne.symm nb), hs_other h.rB (Ne.symm nr), h.bl.setCell hg _, h.lb, h.lr, h.ne⟩
 exact Kd.R_mono (Kd.R_far (p := ⟨g, i, none⟩) (Kd.R_types h.cR hgb (by decide)) (fun _ hk => hk.2) _) (fun _ _ => trivial)
theorem rw_seg {w wr : World} {b r g cap n : Nat} {vp : Value} {cs cs1 : List Cell} {P : List Int} {fr : Int} (h : RwS w b r (.slice (some ⟨g, 0, none⟩) n cap) vp cs P fr wr) (hg : w.heap.size ≤ g) (seg : List Value) (o : Nat)
  (hx : Kd.R k78 78 (wr.setCells g o seg) w.heap.size (fun _ => True) (.slice (some ⟨g, 0, none⟩) n cap) cs1) :
  RwS w b r (.slice (some ⟨g, 0, none⟩) n cap) vp cs1 P fr (wr.setCells g o seg) := by
 obtain ⟨cells, hgb⟩ := Kd.R_typed h.cR g rfl
 have nr : g ≠ r := by rintro rfl; rw [h.rB] at hgb; cases hgb
 have nb : g ≠ b := by rintro rfl; rw [h.bB] at hgb; cases hgb
 obtain ⟨s1, s2, s3, s4⟩ := setCells_same g seg o wr
 have hfar := fun k (hk : k ≠ g) => setCells_far (g := g) seg o (w := wr) k hk
 refine ⟨hx, ?_, (hfar b (Ne.symm nb)).trans h.bB, (hfar r (Ne.symm nr)).trans h.rB, ⟨s1.trans h.bl.os, s2.trans h.bl.tape, s3.trans h.bl.output, by rw [s4]; exact h.bl.size, fun k hk => (hfar k (by omega)).trans (h.bl.block k hk)⟩, h.lb, h.lr, h.ne⟩
 exact Kd.R_mono (Kd.R_step (Kd.R_types h.pR hgb (by decide)) (fun k hk _ => hfar k hk.2)) (fun _ _ => trivial)
def cellSeg (x : Cell) : List Value := [.int .i64 x.f0, .int .i64 x.f1.f0, .int .i64 x.f1.f1, .bool x.f1.f2, .bool x.f1.f3, .bool x.f1.f4]
theorem rw_cell {w wr : World} {b r g cap n : Nat} {vp : Value} {cs : List Cell} {P : List Int} {fr : Int} (h : RwS w b r (.slice (some ⟨g, 0, none⟩) n cap) vp cs P fr wr) (hg : w.heap.size ≤ g) (i : Nat) (hi : i < n) (x : Cell) :
  RwS w b r (.slice (some ⟨g, 0, none⟩) n cap) vp (cs.set i x) P fr ((((((wr.setCell ⟨g, i * 6, none⟩ (.int .i64 x.f0)).setCell ⟨g, i * 6 + 1, none⟩ (.int .i64 x.f1.f0)).setCell ⟨g, i * 6 + 2, none⟩ (.int .i64 x.f1.f1)).setCell ⟨g, i * 6 + 3, none⟩ (.bool x.f1.f2)).setCell ⟨g, i * 6 + 4, none⟩ (.bool x.f1.f3)).setCell ⟨g, i * 6 + 5, none⟩ (.bool x.f1.f4)) := by
 obtain ⟨ce, hcl, hM, hcc, hfr⟩ := Kd.R_elem h.cR z78 (i : Int) (by omega) (by omega)
 have hx := (Kd.R_seg h.cR (i : Int) (by omega) (by omega) (seg := cellSeg x) (j := 0) hcl hcc (show 6 ≤ 6 by decide) (x' := x) (okp := fun k => True ∧ k ≠ g) (by
  have he : (ce.take 0 ++ cellSeg x ++ ce.drop (0 + (cellSeg x).length)) = cellSeg x := by
   rw [List.take_zero, List.nil_append, List.drop_of_length_le (by rw [hcl]; exact Nat.le_refl _), List.append_nil]
  rw [he]
  exact k78_mkM _ _ _ x) (fun _ hk => hk)).1
 rw [Int.toNat_natCast] at hx
 exact rw_seg h hg (cellSeg x) (i * 6) hx
theorem rw_rune {w wr : World} {b r g cap n : Nat} {vp : Value} {cs : List Cell} {P : List Int} {fr : Int} (h : RwS w b r (.slice (some ⟨g, 0, none⟩) n cap) vp cs P fr wr) (hg : w.heap.size ≤ g) (i : Nat) (hi : i < n) (m : Int) :
  RwS w b r (.slice (some ⟨g, 0, none⟩) n cap) vp (cs.set i ⟨m, (cs.getD i z78).f1⟩) P fr (wr.setCell ⟨g, i * 6, none⟩ (.int .i64 m)) := by
 obtain ⟨ce, hcl, hM, hcc, hfr⟩ := Kd.R_elem h.cR z78 (i : Int) (by omega) (by omega)
 rw [Int.toNat_natCast] at hM
 obtain rfl := k78_openM hM
 have hx := (Kd.R_seg h.cR (i : Int) (by omega) (by omega) (seg := [.int .i64 m]) (j := 0) hcl hcc (show 1 ≤ 6 by decide) (x' := ⟨m, (cs.getD i z78).f1⟩) (okp := fun k => True ∧ k ≠ g) (k78_mkM _ _ _ (⟨m, (cs.getD i z78).f1⟩ : Cell)) (fun _ hk => hk)).1
 rw [Int.toNat_natCast] at hx
 exact rw_seg h hg [.int .i64 m] (i * 6) hx
theorem rw_posat {w wr : World} {b r g cap m : Nat} {vc : Value} {cs : List Cell} {P : List Int} {fr : Int} (h : RwS w b r vc (.slice (some ⟨g, 0, none⟩) m cap) cs P fr wr) (hm : P.length = m) (i : Nat) (hi : i < m) :
  wr.cell? ⟨g, i, none⟩ = some (.int .i64 (P.getD i 0)) ∧ wr.frozen? ⟨g, i, none⟩ = false := by
 subst hm
 have := Kd.R_cell (enc := Value.int .i64) (h1 := fun _ => rfl) 0 h.pR (i : Int) (by omega) (by omega)
 rw [Int.toNat_natCast] at this
 exact this
theorem puts_step {x : Fil} {u : Unt} {k N m : Nat} {r : Cell} (hm : x.n = m) (hN : m + k = N) (hk : k < u.cells.length) (hr : rd_T78 (toS u).f0 (k : Int) = r) :
  (x.puts (u.cells.take (k + 1)) u.pos).cells = (x.puts (u.cells.take k) u.pos).cells.set N r ∧ (x.puts (u.cells.take (k + 1)) u.pos).pos = (x.puts (u.cells.take k) u.pos).pos.set N u.pos := by
 have hr' : u.cells.getD k z78 = r := hr
 have hn : (x.puts (u.cells.take k) u.pos).n = N := by rw [Fil.puts_n, List.length_take]; omega
 rw [Fil.put_take _ _ _ _ hk, hr']
 unfold Fil.add1
 rw [hn]
 exact ⟨rfl, rfl⟩
def rowX (width : Nat) (us : List Unt) (end_ mark : Int) : Fil := if mark = 0 then (finU width us).end_ end_ else (finU width us).mark mark
/-- What row returns. -/
def RowRet (w : World) (X : Fil) (e : Ending) (w' : World) : Prop := ∃ v1 v2, e = .returned (.agg #[v1, v2, .int .i64 X.fr, .int .i64 0, .bool false]) ∧ Kd.R k78 78 w' w.heap.size (fun _ => True) v1 X.cells ∧ Kd.R (Kd.int .i64) 3 w' w.heap.size (fun _ => True) v2 X.pos ∧ Below w.heap.size w w'
theorem rw_done {w wr : World} {b r : Nat} {vc vp : Value} {cs : List Cell} {P : List Int} {fr : Int} {X : Fil} (h : RwS w b r vc vp cs P fr wr) (h1 : X.cells = cs) (h2 : X.pos = P) (h3 : X.fr = fr) :
  RowRet w X (.returned (.agg #[vc, vp, .int .i64 fr, .int .i64 0, .bool false])) (((((wr.setCell ⟨b, 0, none⟩ vc).setCell ⟨b, 1, none⟩ vp).setCell ⟨b, 2, none⟩ (.int .i64 fr)).setCell ⟨b, 3, none⟩ (.int .i64 0)).setCell ⟨b, 4, none⟩ (.bool false)) := by
 subst h1 h2 h3
 refine ⟨vc, vp, rfl, ?_, ?_, ((((h.bl.setCell h.lb _).setCell h.lb _).setCell h.lb _).setCell h.lb _).setCell h.lb _⟩
 ·exact Kd.R_mono (Kd.R_far (p := ⟨b, 4, none⟩) (Kd.R_far (p := ⟨b, 3, none⟩) (Kd.R_far (p := ⟨b, 2, none⟩) (Kd.R_far (p := ⟨b, 1, none⟩) (Kd.R_far (p := ⟨b, 0, none⟩) (Kd.R_types h.cR h.bB (by decide)) (fun _ hk => hk.2) _) (fun _ hk => hk.2) _) (fun _ hk => hk.2) _) (fun _ hk => hk.2) _) (fun _ hk => hk.2) _) (fun _ _ => trivial)
 ·exact Kd.R_mono (Kd.R_far (p := ⟨b, 4, none⟩) (Kd.R_far (p := ⟨b, 3, none⟩) (Kd.R_far (p := ⟨b, 2, none⟩) (Kd.R_far (p := ⟨b, 1, none⟩) (Kd.R_far (p := ⟨b, 0, none⟩) (Kd.R_types h.pR h.bB (by decide)) (fun _ hk => hk.2) _) (fun _ hk => hk.2) _) (fun _ hk => hk.2) _) (fun _ hk => hk.2) _) (fun _ hk => hk.2) _) (fun _ _ => trivial)
theorem rw_heads {w wr : World} {b r : Nat} {vc vp : Value} {cs : List Cell} {P : List Int} {fr : Int} (h : RwS w b r vc vp cs P fr wr) :
  (wr.cell? ⟨r, 0, none⟩ = some vc ∧ wr.cell? ⟨r, 1, none⟩ = some vp ∧ wr.cell? ⟨r, 2, none⟩ = some (.int .i64 fr) ∧ wr.cell? ⟨r, 3, none⟩ = some (.int .i64 0) ∧ wr.cell? ⟨r, 4, none⟩ = some (.bool false)) ∧
  (wr.cell? ⟨b, 0, none⟩ = some (.slice none 0 0) ∧ wr.cell? ⟨b, 1, none⟩ = some (.slice none 0 0) ∧ wr.cell? ⟨b, 2, none⟩ = some (.int .i64 0) ∧ wr.cell? ⟨b, 3, none⟩ = some (.int .i64 0) ∧ wr.cell? ⟨b, 4, none⟩ = some (.bool false)) ∧
  (wr.frozen? ⟨b, 0, none⟩ = false ∧ wr.frozen? ⟨b, 1, none⟩ = false ∧ wr.frozen? ⟨b, 2, none⟩ = false ∧ wr.frozen? ⟨b, 3, none⟩ = false ∧ wr.frozen? ⟨b, 4, none⟩ = false) :=
 ⟨⟨cell_row h.rB rfl, cell_row h.rB rfl, cell_row h.rB rfl, cell_row h.rB rfl, cell_row h.rB rfl⟩, ⟨cell_row h.bB rfl, cell_row h.bB rfl, cell_row h.bB rfl, cell_row h.bB rfl, cell_row h.bB rfl⟩, ⟨free_row h.bB, free_row h.bB, free_row h.bB, free_row h.bB, free_row h.bB⟩⟩
set_option maxRecDepth 100000
set_option maxHeartbeats 4000000 in
theorem row_walk (A : Option Addr) (c : Nat) (us : List Unt) (n : Nat) (hn : us.length = n) (width : Nat) (end_ mark : Int) (w : World) (hC : Kd.C k72 w A n (us.map toS)) (hw : 4 ≤ width) (hw2 : width ≤ 1000) (hp : PlainU us) (hr : roomU width us = us.length) (hm : mark = 0 ∨ 0 < n) :
  Calls Tryd.prog 59 #[.slice A n c, .int .i64 width, .int .i64 end_, .int .i64 mark] w (RowRet w (rowX width us end_ mark)) := by
 obtain ⟨X, hX⟩ : ∃ X, rowX width us end_ mark = X := ⟨_, rfl⟩
 rw [hX]
 have HXX := Lib.hid hX
 clear hX
 have hnb : n ≤ 9223372036854775807 := hC.2.1
 have HC := Lib.hid hC
 have HP := Lib.hid hp
 have HR := Lib.hid hr
 have HM := Lib.hid hm
 have HN := Lib.hid hn
 clear hC hp hr hm hn
 have HB := Lib.hid (fun W => rblank_any width hw2 W)
 go_enter Tryd.func59, Tryd.ntmps59
 go_wp2_with fail
 refine (HB.out _).mono ?_
 rintro e w1 ⟨v, rfl, hR1, hb1⟩
 obtain ⟨A1, c1, rfl⟩ := Kd.R_slice hR1
 have hbl : (blankP width).length = width := by simp [blankP]
 rw [hbl] at hR1 ⊢
 have HS := Lib.hid (rw_start w w1 _ _ end_ (by simpa using hR1) (by simpa using hb1))
 clear hR1 hb1
 generalize hq : w1.heap.size = q at HS ⊢
 go_wp2_with fail
 go_loopw [10] (fun v wr => ∃ (j : Nat) (vp : Value), v = .int .i64 j ∧ j ≤ width ∧ Hid (RwS w w.heap.size q (.slice A1 width c1) vp (blankP width) (List.replicate j (-1)) end_ wr)) (fun v _ => width - (intOf v).toNat)
 case atStart => exact ⟨0, _, rfl, Nat.zero_le _, HS⟩
 case round =>
  clear HS
  obtain ⟨j, vp, rfl, hj, HS⟩ := hrel
  have k0 : wr.cell? ⟨q, 0, none⟩ = some (.slice A1 width c1) := cell_row HS.out.rB rfl
  have k1 : wr.cell? ⟨q, 1, none⟩ = some vp := cell_row HS.out.rB rfl
  have k2 : wr.cell? ⟨q, 2, none⟩ = some (.int .i64 end_) := cell_row HS.out.rB rfl
  have f1 : wr.frozen? ⟨q, 1, none⟩ = false := free_row HS.out.rB
  have f2 : wr.frozen? ⟨q, 2, none⟩ = false := free_row HS.out.rB
  by_cases hlt : j < width
  ·go_wp2_with (((with_reducible refine gate_builtin (b := .append) (xs := #[.tmp 24, .tmp 25]) rfl ?_); at_builtin; go_must (refine Kd.R_append (Kd.int .i64) (w0 := w) w.heap.size rfl (.tmp 24) (.tmp 25) 37 3 (.int .i64 0) 8 rfl Tryd.underlying37 info3 rfl (by decide) (by omega) vp (List.replicate j (-1)) (-1) [.int .i64 (-1)] (fun _ => True) (fun _ => False) rfl rfl rfl (fun _ hk => hk.elim) (fun _ _ => trivial) HS.out.pR HS.out.bl HS.out.bl.size (by rw [List.length_replicate]; omega) ?_; intro v1 w2 ho hb hg _; obtain ⟨Av, cv, rfl⟩ := Kd.R_slice ho; have hlen : (List.replicate j (-1 : Int) ++ [-1]).length = j + 1 := (by simp); rw [hlen] at ho ⊢; clear hlen; have HA := Lib.hid (rw_append HS.out ho hb hg); have k1 : w2.cell? ⟨q, 1, none⟩ = some vp := cell_row (blk_grown HS.out.rB hg (Kd.R_ne HS.out.pR HS.out.rB (by decide))) rfl; have f1 : w2.frozen? ⟨q, 1, none⟩ = false := free_row (blk_grown HS.out.rB hg (Kd.R_ne HS.out.pR HS.out.rB (by decide))); clear ho hb hg HS)))
   go_roundw
   case rel => exact ⟨j + 1, _, by go_num, by omega, by rw [List.replicate_succ']; exact HA⟩
   case measure => simp [intOf]; omega
  ·obtain rfl : j = width := by omega
   clear hj hlt
   obtain ⟨gc, cc, ec, hgc1, hgc2, -⟩ := Kd.R_form HS.out.cR (by rw [hbl]; omega)
   rw [hbl] at ec
   cases ec
   obtain ⟨gp, cp, ep, hgp1, hgp2, -⟩ := Kd.R_form HS.out.pR (by rw [List.length_replicate]; omega)
   rw [List.length_replicate] at ep
   subst ep
   have hnew : (newFil j).cells = blankP j ∧ (newFil j).pos = List.replicate j (-1) := ⟨rfl, rfl⟩
   rcases Nat.eq_zero_or_pos n with h0 | h0
   ·subst h0
    have hm0 : mark = 0 := by rcases HM.out with h | h; exact h; omega
    have hmb : (mark == 0) = true := by simp [hm0]
    have husn : us = [] := List.length_eq_zero_iff.1 HN.out
    have hXv : X = (newFil j).end_ end_ := by rw [← HXX.out, husn]; unfold rowX; rw [if_pos hm0]; rfl
    have HXV := Lib.hid hXv
    have HUN := Lib.hid husn
    obtain ⟨t0, s0⟩ := rw_posat HS.out (by simp) 0 (by omega)
    obtain ⟨⟨q0, q1, q2, q3, q4⟩, ⟨b0, b1, b2, b3, b4⟩, ⟨z0, z1, z2, z3, z4⟩⟩ := rw_heads HS.out
    have hqb : q ≠ w.heap.size := Ne.symm HS.out.ne
    have hbq : w.heap.size ≠ q := HS.out.ne
    have hgb : gp ≠ w.heap.size := by rintro rfl; obtain ⟨cells, hgb⟩ := Kd.R_typed HS.out.pR _ rfl; rw [HS.out.bB] at hgb; cases hgb
    have hgq : gp ≠ q := by rintro rfl; obtain ⟨cells, hgb⟩ := Kd.R_typed HS.out.pR _ rfl; rw [HS.out.rB] at hgb; cases hgb
    have hj1 : (0 : Int) < (j : Int) := by omega
    have hj2 : 0 < j := by omega
    clear hm0 hXv k0 k1 k2 f1 f2 husn
    obtain ⟨wo, rfl⟩ : ∃ wo : World, wo = wr := ⟨_, rfl⟩
    go_wp2_with fail
    go_loopw [11, 12] (fun v11 v wx => v11 = .int .i64 0 ∧ v = .int .i64 0 ∧ Hid (wo = wx)) (fun _ _ _ => 0)
    case atStart => exact ⟨rfl, rfl, Lib.hid rfl⟩
    case round =>
     obtain ⟨rfl, rfl, hw0⟩ := hrel
     obtain rfl := hw0.out
     go_wp2
     have hX0 := HXV.out
     have h1 : X.cells = blankP j := by rw [hX0]; exact Fil.at0_cells _ end_
     have h2 : X.pos = (List.replicate j (-1)).set 0 end_ := by rw [hX0]; rfl
     have h3 : X.fr = end_ := by rw [hX0]; rfl
     refine bodyPost_ret (v := .agg #[.slice (some ⟨gc, 0, none⟩) j c1, .slice (some ⟨gp, 0, none⟩) j cp, .int .i64 end_, .int .i64 0, .bool false]) ?_ rfl (rw_done (rw_pos HS.out (by simp) hgp1 0 end_) h1 h2 h3)
     simp [results, Tryd.results59, go_sem, b0, b1, b2, b3, b4]
   ·have d0 : decide (0 < n) = true := decide_eq_true h0
    obtain ⟨ad, A0, c0, rfl, x0, x1, x2, hc0, g0⟩ := at_T72 (Kd.C_below HC.out HS.out.bl) 0 (by omega) (by omega)
    obtain ⟨fr, hfr⟩ : ∃ fr, (rd_T72 (us.map toS) 0).f1 = fr := ⟨_, rfl⟩
    rw [hfr, show ((0 : Int)).toNat = 0 from rfl, show 0 * 3 = 0 from rfl, Addr.add_zero'] at x1
    have HF := Lib.hid hfr
    clear x0 x2 hc0 g0 hfr
    go_wp2_with fail
    have HS1 := Lib.hid (rw_from (x := fr) HS.out)
    clear HS k0 k1 k2 f1 f2 x1 d0
    generalize wr.setCell ⟨q, 2, none⟩ (.int .i64 fr) = w0 at HS1 ⊢
    go_loopw [11, 12] (fun v11 v12 wx => ∃ i : Nat, v12 = .int .i64 i ∧ i ≤ n ∧ v11 = .int .i64 (finU j (us.take i)).n ∧ Hid (RwS w w.heap.size q (.slice (some ⟨gc, 0, none⟩) j c1) (.slice (some ⟨gp, 0, none⟩) j cp) (finU j (us.take i)).cells (finU j (us.take i)).pos fr wx)) (fun _ v _ => n - (intOf v).toNat)
    case atStart => exact ⟨0, rfl, Nat.zero_le _, rfl, HS1⟩
    case round =>
     clear HS1
     obtain ⟨i, rfl, hi, rfl, HS⟩ := hrel
     by_cases hlt : i < n
     ·have hus : us[i]? = some (us.getD i ⟨[], 0, false⟩) := by have := HN.out; simp [show i < us.length by omega]
      obtain ⟨u, hu⟩ : ∃ u, us.getD i ⟨[], 0, false⟩ = u := ⟨_, rfl⟩
      rw [hu] at hus
      obtain ⟨hil, hui⟩ := List.getElem?_eq_some_iff.1 hus
      obtain ⟨hok, hfit, hnext⟩ := fin_at (by omega) HP.out HR.out i hil
      rw [hui] at hfit hnext
      obtain ⟨x, hx⟩ : ∃ x, finU j (us.take i) = x := ⟨_, rfl⟩
      rw [hx] at hok hfit hnext HS ⊢
      obtain ⟨m, hm⟩ : ∃ m, x.n = m := ⟨_, rfl⟩
      rw [hm] at hfit ⊢
      obtain ⟨L, hL⟩ : ∃ L, u.cells.length = L := ⟨_, rfl⟩
      rw [hL] at hfit
      have HU := Lib.hid hui
      have HX := Lib.hid hnext
      have HO := Lib.hid hok
      have HMM := Lib.hid hm
      have HLL := Lib.hid hL
      clear hus hu hui hok hnext hx hm hL
      obtain ⟨wo, rfl⟩ : ∃ wo : World, wo = wr := ⟨_, rfl⟩
      go_wp2_with fail
      go_loopw [11, 13] (fun v11 v13 wx => ∃ k : Nat, v13 = .int .i64 k ∧ k ≤ L ∧ v11 = .int .i64 ((m + k : Nat) : Int) ∧ Hid (RwS w w.heap.size q (.slice (some ⟨gc, 0, none⟩) j c1) (.slice (some ⟨gp, 0, none⟩) j cp) (x.puts (u.cells.take k) u.pos).cells (x.puts (u.cells.take k) u.pos).pos fr wx)) (fun _ v _ => L - (intOf v).toNat)
      case atStart => exact ⟨0, rfl, Nat.zero_le _, rfl, HS⟩
      case round =>
       clear HS
       obtain ⟨k, rfl, hk, rfl, HS⟩ := hrel
       obtain ⟨ad', A0, c0, e, y0, y1, -, hc0, g0⟩ := at_T72 (Kd.C_below HC.out HS.out.bl) (i : Int) (by omega) (by omega)
       cases e
       have hrd : rd_T72 (us.map toS) (i : Int) = toS u := by
        have := HU.out
        simp [rd_T72, hil, this]
       rw [hrd, Int.toNat_natCast] at y0 y1
       rw [hrd] at g0
       have hLL : (toS u).f0.length = L := HLL.out
       rw [hLL] at y0 g0
       have hpp : (toS u).f1 = u.pos := rfl
       rw [hpp] at y1
       have G0 := Lib.hid g0
       clear hrd g0 hLL hpp hc0
       obtain ⟨ua, hua⟩ : ∃ ua, ad.add (i * 3) = ua := ⟨_, rfl⟩
       rw [hua] at y0 y1
       have hi0 : (0 : Int) ≤ (i : Int) := by omega
       have hi1 : (i : Int) < (n : Int) := by omega
       by_cases hkl : k < L
       ·obtain ⟨N, hN⟩ : ∃ N, m + k = N := ⟨_, rfl⟩
        rw [hN]
        obtain ⟨a2, e2, z0, z1, z2, z3, z4, z5⟩ := at_T78 G0.out (k : Int) (by omega) (by omega)
        subst e2
        rw [Int.toNat_natCast] at z0 z1 z2 z3 z4 z5
        obtain ⟨r, hr⟩ : ∃ r, rd_T78 (toS u).f0 (k : Int) = r := ⟨_, rfl⟩
        rw [hr] at z0 z1 z2 z3 z4 z5
        obtain ⟨ca, hca⟩ : ∃ ca, a2.add (k * 6) = ca := ⟨_, rfl⟩
        rw [hca] at z0 z1 z2 z3 z4 z5
        obtain ⟨ce, hcl, hM, hcc, hfz⟩ := Kd.R_elem HS.out.cR z78 (N : Int) (by omega) (by omega)
        rw [Int.toNat_natCast] at hM hcc hfz
        obtain rfl := k78_openM hM
        have t0 : wr.cell? ⟨gc, N * 6, none⟩ = _ := hcc 0 _ rfl
        have t1 : wr.cell? ⟨gc, N * 6 + 1, none⟩ = _ := hcc 1 _ rfl
        have t2 : wr.cell? ⟨gc, N * 6 + 2, none⟩ = _ := hcc 2 _ rfl
        have t3 : wr.cell? ⟨gc, N * 6 + 3, none⟩ = _ := hcc 3 _ rfl
        have t4 : wr.cell? ⟨gc, N * 6 + 4, none⟩ = _ := hcc 4 _ rfl
        have t5 : wr.cell? ⟨gc, N * 6 + 5, none⟩ = _ := hcc 5 _ rfl
        have s0 : wr.frozen? ⟨gc, N * 6, none⟩ = false := hfz 0
        have s1 : wr.frozen? ⟨gc, N * 6 + 1, none⟩ = false := hfz 1
        have s2 : wr.frozen? ⟨gc, N * 6 + 2, none⟩ = false := hfz 2
        have s3 : wr.frozen? ⟨gc, N * 6 + 3, none⟩ = false := hfz 3
        have s4 : wr.frozen? ⟨gc, N * 6 + 4, none⟩ = false := hfz 4
        have s5 : wr.frozen? ⟨gc, N * 6 + 5, none⟩ = false := hfz 5
        have k0 : wr.cell? ⟨q, 0, none⟩ = some (.slice (some ⟨gc, 0, none⟩) j c1) := cell_row HS.out.rB rfl
        have HR := Lib.hid hr
        have HNN := Lib.hid hN
        have HUA := Lib.hid hua
        have hN0 : (0 : Int) ≤ (N : Int) := by omega
        have hN1 : (N : Int) < (j : Int) := by omega
        have hk0 : (0 : Int) ≤ (k : Int) := by omega
        have hk1 : (k : Int) < (L : Int) := by omega
        have HCA := Lib.hid hca
        clear hr hN hM hcc hfz hcl
        go_wp2
        go_region
        go_wp2_with fail
        have HS2 := Lib.hid (rw_drew (rw_cell HS.out hgc1 N (by omega) r))
        have hpl : (x.puts (u.cells.take k) u.pos).pos.length = j := by rw [Fil.puts_pos]; exact HO.out.p
        clear HS t0 t1 t2 t3 t4 t5 s0 s1 s2 s3 s4 s5 k0 z0 z1 z2 z3 z4 z5 y0 y1 hua hca
        generalize World.drew _ = w2 at HS2 ⊢
        obtain ⟨ad', A0, c0, e, y0, y1, -, -, -⟩ := at_T72 (Kd.C_below HC.out HS2.out.bl) (i : Int) (by omega) (by omega)
        cases e
        have hrd : rd_T72 (us.map toS) (i : Int) = toS u := by
         have := HU.out
         simp [rd_T72, hil, this]
        rw [hrd, Int.toNat_natCast] at y0 y1
        have hpp : (toS u).f1 = u.pos := rfl
        rw [hpp] at y1
        obtain ⟨ua, hua⟩ : ∃ ua, ad.add (i * 3) = ua := ⟨_, rfl⟩
        rw [hua] at y0 y1
        obtain ⟨t0, s0⟩ := rw_posat HS2.out hpl N (by omega)
        have k1 : w2.cell? ⟨q, 1, none⟩ = some (.slice (some ⟨gp, 0, none⟩) j cp) := cell_row HS2.out.rB rfl
        have HPL := Lib.hid hpl
        clear hrd hpp hpl
        go_region
        go_wp2_with fail
        have HS3 := Lib.hid (rw_drew (rw_pos HS2.out HPL.out hgp1 N u.pos))
        clear HS2 t0 s0 k1 y0 y1 hua
        go_roundw
        case rel =>
         obtain ⟨p1, p2⟩ := puts_step HMM.out HNN.out (by have := HLL.out; omega) HR.out
         exact ⟨k + 1, by go_num, by omega, by have := HNN.out; congr 1; omega, by rw [p1, p2]; exact HS3⟩
        case measure => simp [intOf]; omega
       ·obtain rfl : k = L := by omega
        go_wp2_with fail
        go_roundw
        case rel =>
         have hta : u.cells.take k = u.cells := List.take_of_length_le (by have := HLL.out; omega)
         obtain ⟨p1, p2, p3⟩ := putU_same x u
         refine ⟨i + 1, by go_num, by omega, ?_, ?_⟩
         ·rw [HX.out, ← p3, Fil.puts_n, HMM.out, HLL.out]
         ·rw [HX.out, ← p1, ← p2]
          rw [hta] at HS
          exact HS
        case measure => simp [intOf]; omega
     ·obtain rfl : i = n := by omega
      have htk : us.take i = us := List.take_of_length_le (by rw [HN.out]; exact Nat.le_refl _)
      rw [htk] at HS ⊢
      have hfo := fin_ok (by omega) HP.out HR.out
      obtain ⟨x, hx⟩ : ∃ x, finU j us = x := ⟨_, rfl⟩
      rw [hx] at hfo HS ⊢
      obtain ⟨N, hN⟩ : ∃ N, x.n = N := ⟨_, rfl⟩
      have hNj := hfo.n
      rw [hN] at hNj ⊢
      have HNN := Lib.hid hN
      have HFO := Lib.hid hfo
      have HX := Lib.hid hx
      have hfrx : x.fr = fr ∧ N ≠ 0 := by
       rw [← hx, ← hN, ← hx, ← HF.out]
       cases hus : us with
       | nil => have := HN.out; rw [hus] at this; simp at this; omega
       | cons u us' =>
        have hu := HP.out u (by rw [hus]; exact List.mem_cons_self ..)
        refine ⟨finU_fr hu.2.1, ?_⟩
        obtain ⟨f1, f2, f3⟩ := fin_at (width := j) (by omega) HP.out HR.out (us.length - 1) (by rw [hus]; simp)
        rw [show us.length - 1 + 1 = us.length by rw [hus]; simp, List.take_length] at f3
        obtain ⟨f4, f5⟩ := put_ok_n f1 f2
        have f6 := HP.out (us[us.length - 1]'(by rw [hus]; simp)) (List.getElem_mem _)
        rw [← hus, f3, f5]
        omega
      have HFR := Lib.hid hfrx
      clear hfo hN hx htk hfrx
      have hN0 : (0 : Int) ≤ (N : Int) := by omega
      have hN1 : (N : Int) < (j : Int) := by omega
      obtain ⟨⟨q0, q1, q2, q3, q4⟩, ⟨b0, b1, b2, b3, b4⟩, ⟨z0, z1, z2, z3, z4⟩⟩ := rw_heads HS.out
      have hqb : q ≠ w.heap.size := Ne.symm HS.out.ne
      have hbq : w.heap.size ≠ q := HS.out.ne
      by_cases hm0 : mark = 0
      ·have hmb : (mark == 0) = true := by simp [hm0]
       have hXv : X = x.end_ end_ := by rw [← HXX.out, ← HX.out]; unfold rowX; rw [if_pos hm0]
       have HXV := Lib.hid hXv
       obtain ⟨t0, s0⟩ := rw_posat HS.out HFO.out.p N (by omega)
       have hgb : gp ≠ w.heap.size := by rintro rfl; obtain ⟨cells, hgb⟩ := Kd.R_typed HS.out.pR _ rfl; rw [HS.out.bB] at hgb; cases hgb
       have hgq : gp ≠ q := by rintro rfl; obtain ⟨cells, hgb⟩ := Kd.R_typed HS.out.pR _ rfl; rw [HS.out.rB] at hgb; cases hgb
       clear hm0 hXv
       go_wp2
       have hX0 := HXV.out
       have h1 : X.cells = x.cells := by rw [hX0]; exact Fil.at0_cells x end_
       have h2 : X.pos = x.pos.set N end_ := by rw [hX0, ← HNN.out]; rfl
       have h3 : X.fr = fr := by
        rw [hX0]
        show (x.at0 end_).fr = fr
        unfold Fil.at0
        rw [if_neg (by rw [HNN.out]; exact HFR.out.2)]
        exact HFR.out.1
       refine bodyPost_ret (v := .agg #[.slice (some ⟨gc, 0, none⟩) j c1, .slice (some ⟨gp, 0, none⟩) j cp, .int .i64 fr, .int .i64 0, .bool false]) ?_ rfl (rw_done (rw_pos HS.out HFO.out.p hgp1 N end_) h1 h2 h3)
       simp [results, Tryd.results59, go_sem, b0, b1, b2, b3, b4]
      ·have hmb : (mark == 0) = false := by simp [hm0]
       obtain ⟨jm, hjm⟩ : ∃ jm : Nat, (j : Int) - 1 = (jm : Int) := ⟨j - 1, by omega⟩
       have hjm0 : (0 : Int) ≤ (jm : Int) := by omega
       have hjm1 : (jm : Int) < (j : Int) := by omega
       have hXv : X = x.mark mark := by rw [← HXX.out, ← HX.out]; unfold rowX; rw [if_neg hm0]
       have HXV := Lib.hid hXv
       obtain ⟨ce, hcl, hM, hcc, hfz⟩ := Kd.R_elem HS.out.cR z78 (jm : Int) (by omega) (by omega)
       rw [Int.toNat_natCast] at hM hcc hfz
       obtain rfl := k78_openM hM
       have t0 : wr.cell? ⟨gc, jm * 6, none⟩ = _ := hcc 0 _ rfl
       have s0 : wr.frozen? ⟨gc, jm * 6, none⟩ = false := hfz 0
       have hgb : gc ≠ w.heap.size := by rintro rfl; obtain ⟨cells, hgb⟩ := Kd.R_typed HS.out.cR _ rfl; rw [HS.out.bB] at hgb; cases hgb
       have hgq : gc ≠ q := by rintro rfl; obtain ⟨cells, hgb⟩ := Kd.R_typed HS.out.cR _ rfl; rw [HS.out.rB] at hgb; cases hgb
       clear hm0 hXv hcl hM hcc hfz
       go_wp2
       have hX0 := HXV.out
       have hjl : x.cells.length - 1 = jm := by rw [HFO.out.c]; omega
       have h1 : X.cells = x.cells.set jm ⟨mark, (x.cells.getD jm z78).f1⟩ := by rw [hX0]; unfold Fil.mark; rw [hjl]
       have h2 : X.pos = x.pos := by rw [hX0]; rfl
       have h3 : X.fr = fr := by rw [hX0]; exact HFR.out.1
       refine bodyPost_ret (v := .agg #[.slice (some ⟨gc, 0, none⟩) j c1, .slice (some ⟨gp, 0, none⟩) j cp, .int .i64 fr, .int .i64 0, .bool false]) ?_ rfl (rw_done (rw_rune HS.out hgc1 jm (by omega) mark) h1 h2 h3)
       simp [results, Tryd.results59, go_sem, b0, b1, b2, b3, b4]
end Go.Proofs.YtppjgofjjcdcdaaDoor

/- copyistref35.laid: the rows of a line. -/
namespace Go.Proofs.YtppjgofjjcdcdaaDoor
open PLayoutRows
open Go.RowKit Go.Proofs.YtppjgofjjcdcdaaDoorW.PrintWords Go.Proofs.YtppjgofjjcdcdaaDoorW.PrintMore
/-- A list of rows of the call's own. -/
def LaidRet (w : World) (rs : List Row) (e : Ending) (w' : World) : Prop := ∃ v, e = .returned v ∧ Kd.R k39 39 w' w.heap.size (fun _ => True) v rs ∧ Below w.heap.size w w'
theorem row_M {W : World} {base : Nat} {v v0 v1 : Value} {rs : List Row} (ho : Kd.R k39 39 W base (fun _ => True) v rs) (x : Row) (g0 : Kd.R k78 78 W base (fun _ => True) v0 x.f0) (g1 : Kd.R (Kd.int .i64) 3 W base (fun _ => True) v1 x.f1) :
  Kd.M k39 W base (fun k => True ∧ some k ≠ v.ownBlock) x [v0, v1, .int .i64 x.f2, .int .i64 x.f3, .bool x.f4] := by
 refine k39_mkM W base _ x (Kd.R_mono (Kd.R_bound g0) fun k hk => ⟨trivial, fun he => ?_⟩) (Kd.R_mono (Kd.R_bound g1) fun k hk => ⟨trivial, fun he => ?_⟩)
 ·obtain ⟨cells, hc⟩ := Kd.R_typed ho k he.symm
  obtain ⟨q, hq, cells', hc'⟩ := hk.2.2.2
  rw [hc] at hc'
  cases hc'
  revert hq
  decide
 ·obtain ⟨cells, hc⟩ := Kd.R_typed ho k he.symm
  obtain ⟨q, hq, cells', hc'⟩ := hk.2.2.2
  rw [hc] at hc'
  cases hc'
  revert hq
  decide
theorem rows_lit {w W : World} {v0 v1 : Value} (x : Row) (g0 : Kd.R k78 78 W w.heap.size (fun _ => True) v0 x.f0) (g1 : Kd.R (Kd.int .i64) 3 W w.heap.size (fun _ => True) v1 x.f1) (hb : Below w.heap.size w W) :
  LaidRet w [x] (.returned (.slice (some ⟨W.heap.size, 0, none⟩) 1 1)) (W.alloc (.cells #[v0, v1, .int .i64 x.f2, .int .i64 x.f3, .bool x.f4] 39)) := by
 refine ⟨_, rfl, ⟨fun _ _ => trivial, [v0, v1, .int .i64 x.f2, .int .i64 x.f3, .bool x.f4], ?_, ?_⟩, below_alloc hb _⟩
 ·have h2 := World.ownsRow_lit (base := w.heap.size) (e := 39) (size := 5) W #[v0, v1, .int .i64 x.f2, .int .i64 x.f3, .bool x.f4] 1 hb.size (by simp [maxLen]) (by simp)
  have h3 : k39.sz = 5 := rfl
  rw [h3]
  simpa using h2
 ·refine ⟨by simp; rfl, fun j p hp => ?_⟩
  have hj : j = 0 := by have := (List.getElem?_eq_some_iff.1 hp).1; simp at this; omega
  subst hj
  have hpx : p = x := by simpa using hp.symm
  subst hpx
  have far : ∀ k, k < W.heap.size → some k ≠ (Value.slice (some ⟨W.heap.size, 0, none⟩) 1 1).ownBlock := by
   intro k hk he
   have h1 : k = W.heap.size := by simpa [Value.ownBlock] using he
   omega
  exact k39_mkM _ _ _ p (Kd.R_alloc (Kd.R_mono (Kd.R_bound g0) (fun k hk => ⟨trivial, far k hk.2.2.1⟩)) _) (Kd.R_alloc (Kd.R_mono (Kd.R_bound g1) (fun k hk => ⟨trivial, far k hk.2.2.1⟩)) _)
def rowLit (width : Nat) (us : List Unt) (e m : Int) (cont : Bool) : Row := ⟨(rowX width us e m).cells, (rowX width us e m).pos, (rowX width us e m).fr, 0, cont⟩
theorem finU_rest (width : Nat) (us : List Unt) : (finU width us).to_ = 0 ∧ (finU width us).cont = false := by
 have hp : ∀ (cs : List Cell) (pos : Int) (x : Fil), (x.puts cs pos).to_ = x.to_ ∧ (x.puts cs pos).cont = x.cont := by
  intro cs pos
  induction cs with
  | nil => intro x; exact ⟨rfl, rfl⟩
  | cons c cs ih => intro x; exact ih (x.add1 c pos)
 have h0 : ∀ (x : Fil) (pos : Int), (x.at0 pos).to_ = x.to_ ∧ (x.at0 pos).cont = x.cont := by intro x pos; unfold Fil.at0; split <;> exact ⟨rfl, rfl⟩
 have key : ∀ (us : List Unt) (x : Fil), x.to_ = 0 → x.cont = false → (us.foldl putU x).to_ = 0 ∧ (us.foldl putU x).cont = false := by
  intro us
  induction us with
  | nil => intro x h1 h2; exact ⟨h1, h2⟩
  | cons u us ih =>
   intro x h1 h2
   refine ih (putU x u) ?_ ?_
   ·show (Fil.puts (x.at0 u.pos) u.cells u.pos).to_ = 0
    rw [(hp _ _ _).1, (h0 _ _).1, h1]
   ·show (Fil.puts (x.at0 u.pos) u.cells u.pos).cont = false
    rw [(hp _ _ _).2, (h0 _ _).2, h2]
 exact key us (newFil width) rfl rfl
theorem lit_end (width : Nat) (us : List Unt) (e : Int) : rowOf ((finU width us).end_ e) = rowLit width us e 0 false := by
 have h := finU_rest width us
 have h0 : ∀ (x : Fil) (pos : Int), (x.at0 pos).to_ = x.to_ ∧ (x.at0 pos).cont = x.cont := by intro x pos; unfold Fil.at0; split <;> exact ⟨rfl, rfl⟩
 unfold rowLit rowX
 rw [if_pos rfl]
 show (⟨((finU width us).end_ e).cells, ((finU width us).end_ e).pos, ((finU width us).end_ e).fr, ((finU width us).at0 e).to_, ((finU width us).at0 e).cont⟩ : Row) = _
 rw [(h0 _ _).1, (h0 _ _).2, h.1, h.2]
theorem lit_mark (width : Nat) (us : List Unt) (e m : Int) (hm : m ≠ 0) : rowOf ((finU width us).mark m) = rowLit width us e m false := by
 have h := finU_rest width us
 unfold rowLit rowX
 rw [if_neg hm]
 show (⟨((finU width us).mark m).cells, ((finU width us).mark m).pos, ((finU width us).mark m).fr, (finU width us).to_, (finU width us).cont⟩ : Row) = _
 rw [h.1, h.2]
theorem lit_cut (width : Nat) (us : List Unt) (e : Int) : rowOf (finU width us).cut = rowLit width us e 92 true := by
 have h := finU_rest width us
 unfold rowLit rowX
 rw [if_neg (by decide)]
 show (⟨((finU width us).mark 92).cells, ((finU width us).mark 92).pos, ((finU width us).mark 92).fr, (finU width us).to_, true⟩ : Row) = _
 rw [h.1]
theorem toS_take (us : List Unt) (k : Nat) : (us.map toS).take k = (us.take k).map toS := (List.map_take ..).symm
theorem laidRet_lower {w W w' : World} {rs : List Row} {e : Ending} (h : LaidRet W rs e w') (hb : Below w.heap.size w W) : LaidRet w rs e w' := by
 obtain ⟨v, he, hr, hb'⟩ := h
 exact ⟨v, he, Kd.R_lower hr hb.size, below_step hb hb'⟩
theorem plain_drop {us : List Unt} (h : PlainU us) (k : Nat) : PlainU (us.drop k) := fun v hv => h v (List.mem_of_mem_drop hv)
theorem plain_take {us : List Unt} (h : PlainU us) (k : Nat) : PlainU (us.take k) := fun v hv => h v (List.mem_of_mem_take hv)
theorem room_of_take {width : Nat} {us : List Unt} (k : Nat) (h : k ≤ roomU width us) : roomU width (us.take k) = (us.take k).length := by
 have h1 := room_le (width - 1) us 0
 unfold roomU at h ⊢
 rw [room_take, List.length_take]
 omega
theorem room_pos {width : Nat} (hw : 4 ≤ width) {us : List Unt} (hp : PlainU us) (h : 0 < us.length) : 1 ≤ roomU width us := by
 cases us with
 | nil => simp at h
 | cons u us =>
  have hu := hp u (List.mem_cons_self ..)
  unfold roomU
  show 1 ≤ (if 0 + u.cells.length ≤ width - 1 then _ else _)
  rw [if_pos (by omega)]
  omega
set_option maxRecDepth 100000
set_option maxHeartbeats 4000000 in
theorem laid_walk (A : Option Addr) (c : Nat) (us : List Unt) (n : Nat) (hn : us.length = n) (hnc : n ≤ c) (end_ : Int) (width : Nat) (wrap : Bool) (w : World) (hC : Kd.C k72 w A n (us.map toS)) (hw : 4 ≤ width) (hw2 : width ≤ 1000) (hp : PlainU us) (hlen : n ≤ 20000000) :
  Calls Tryd.prog 38 #[.slice A n c, .int .i64 end_, .int .i64 width, .bool wrap] w (LaidRet w (rowsE width wrap end_ us)) := by
 have HROOM := Lib.hid (fun A c us n (hn : us.length = n) W h hc hp hl => (show Calls Tryd.prog 58 #[.slice A n c, .int .i64 width] W fun e w' => e = .returned (.int .i64 (roomU width us)) ∧ Drawn0 W w' from by
  have := room_any A c us width W (by rw [List.length_map, hn]; exact h) (by rw [List.length_map, hn]; exact hc) hw hw2 hp hl
  rw [List.length_map, hn] at this
  exact this))
 have HROW := Lib.hid (fun A c us n hn e m W h hp hr hm => row_walk A c us n hn width e m W h hw hw2 hp hr hm)
 obtain ⟨E, hE⟩ : ∃ E, rowsE width wrap end_ us = E := ⟨_, rfl⟩
 rw [hE]
 have HE := Lib.hid hE
 have HC := Lib.hid hC
 have HP := Lib.hid hp
 have HN := Lib.hid hn
 clear hE hC hp hn
 obtain ⟨k, hk⟩ : ∃ k, roomU width us = k := ⟨_, rfl⟩
 have hkn : k ≤ n := by have := room_le (width - 1) us 0; rw [← hk]; unfold roomU; have := HN.out; omega
 have HK := Lib.hid hk
 clear hk
 have hlen' : us.length ≤ 1000000000 := by have := HN.out; omega
 have HL := Lib.hid hlen'
 clear hlen'
 by_cases hfit : k = n
 ·subst hfit
  go_enter Tryd.func38, Tryd.ntmps38
  go_wp2_with fail
  refine (HROOM.out A c us k HN.out w HC.out hnc HP.out HL.out).mono ?_
  rintro e w1 ⟨rfl, hd⟩
  rw [HK.out]
  have HB1 := Lib.hid hd.below
  clear hd
  go_wp2_with fail
  refine (HROW.out A c us k HN.out end_ 0 w1 (Kd.C_below HC.out HB1.out) HP.out (by rw [HK.out, HN.out]) (.inl rfl)).mono ?_
  rintro e w2 ⟨v1, v2, rfl, hR1, hR2, hb⟩
  obtain ⟨A1, c1, rfl⟩ := Kd.R_slice hR1
  obtain ⟨A2, c2, rfl⟩ := Kd.R_slice hR2
  have hE := HE.out
  rw [laid_fit hw wrap end_ HP.out (by rw [HK.out, HN.out]), lit_end] at hE
  have HR := Lib.hid (rows_lit (rowLit width us end_ 0 false) (Kd.R_lower hR1 HB1.out.size) (Kd.R_lower hR2 HB1.out.size) (below_step HB1.out hb))
  have HEE := Lib.hid hE
  clear hR1 hR2 hb hE
  go_wp2
  go_ret
  rw [← HEE.out]
  exact HR.out
 ·have hkl : k < n := by omega
  have hkb : ((k : Int) == (n : Int)) = false := by simp; omega
  have hk0 : (0 : Int) ≤ (k : Int) := by omega
  have hk1 : (k : Int) ≤ (n : Int) := by omega
  have h1k := room_pos hw HP.out (by have := HN.out; omega)
  rw [HK.out] at h1k
  clear hfit
  obtain ⟨i0, hi, _, hsz, _⟩ := info_parts info72
  have HTO := Lib.hid (fun A n c j h0 hm hc => cut_to (P := Tryd.prog) 67 72 .i64 Tryd.underlying67 hi A n c j h0 hm hc)
  have HFROM := Lib.hid (fun A n c j h0 hm => cut_from (P := Tryd.prog) 67 72 .i64 Tryd.underlying67 hi 3 hsz A n c j h0 hm)
  clear hi hsz
  cases wrap with
  | false =>
   have hcut := HTO.out A n c (k : Int) hk0 hk1 hnc
   rw [Int.toNat_natCast] at hcut
   go_enter Tryd.func38, Tryd.ntmps38
   go_wp2_with fail
   refine (HROOM.out A c us n HN.out w HC.out hnc HP.out HL.out).mono ?_
   rintro e w1 ⟨rfl, hd⟩
   rw [HK.out]
   have HB1 := Lib.hid hd.below
   clear hd
   go_wp2_with fail
   have hCk : Kd.C k72 w1 A k ((us.take k).map toS) := by rw [← toS_take]; exact C_take (Kd.C_below HC.out HB1.out) (by omega)
   refine (HROW.out A c (us.take k) k (by rw [List.length_take, HN.out]; omega) end_ 36 w1 hCk (plain_take HP.out k) (room_of_take k (by rw [HK.out]; exact Nat.le_refl _)) (.inr h1k)).mono ?_
   rintro e w2 ⟨v1, v2, rfl, hR1, hR2, hb⟩
   obtain ⟨A1, c1, rfl⟩ := Kd.R_slice hR1
   obtain ⟨A2, c2, rfl⟩ := Kd.R_slice hR2
   have hE := HE.out
   rw [laid_cut hw end_ HP.out (by rw [HK.out, HN.out]; exact hkl), HK.out, lit_mark width (us.take k) end_ 36 (by decide)] at hE
   have HR := Lib.hid (rows_lit (rowLit width (us.take k) end_ 36 false) (Kd.R_lower hR1 HB1.out.size) (Kd.R_lower hR2 HB1.out.size) (below_step HB1.out hb))
   have HEE := Lib.hid hE
   clear hR1 hR2 hb hE hcut hCk
   go_wp2
   go_ret
   rw [← HEE.out]
   exact HR.out
  | true =>
   go_enter Tryd.func38, Tryd.ntmps38
   go_wp2_with fail
   refine (HROOM.out A c us n HN.out w HC.out hnc HP.out HL.out).mono ?_
   rintro e w1 ⟨rfl, hd⟩
   rw [HK.out]
   have HB1 := Lib.hid hd.below
   clear hd
   go_wp2_with fail
   go_loopg [0, 9, 10] n (fun kq v0 v9 v10 wr => ∃ (vs : List Unt) (m : Nat) (B : Option Addr) (d : Nat) (rs : List Row), v0 = .slice B m d ∧ m ≤ d ∧ m ≤ kq ∧ kq ≤ n ∧ v9 = .int .i64 (roomU width vs) ∧ Hid (vs.length = m) ∧ Hid (PlainU vs) ∧ Hid (Kd.C k72 w B m (vs.map toS)) ∧ Hid (Kd.R k39 39 wr w.heap.size (fun _ => True) v10 rs) ∧ Hid (rs ++ rowsE width true end_ vs = E) ∧ Hid (Below w.heap.size w wr) ∧ rs.length + m ≤ n)
   case atStart => exact ⟨us, n, A, c, [], rfl, hnc, Nat.le_refl _, Nat.le_refl _, by rw [HK.out], HN, HP, HC, Lib.hid (Kd.R_nil _ _ _ _ _), Lib.hid HE.out, HB1, by simp⟩
   case round =>
    clear HC HP HN HK HL HE HB1 hkb hk0 hk1 hkl h1k hnc
    obtain ⟨vs, m, B, d, rs, rfl, hmd, hmk, hkn', rfl, HN, HP, HC, HR, HE, HB, hrl⟩ := hrel
    obtain ⟨q, hq⟩ : ∃ q, roomU width vs = q := ⟨_, rfl⟩
    have hqm : q ≤ m := by have := room_le (width - 1) vs 0; rw [← hq]; unfold roomU; have := HN.out; omega
    rw [hq]
    have HQ := Lib.hid hq
    clear hq
    by_cases hlt : q < m
    ·have h1q := room_pos hw HP.out (by have := HN.out; omega)
     rw [HQ.out] at h1q
     have hq0 : (0 : Int) ≤ (q : Int) := by omega
     have hq1 : (q : Int) ≤ (m : Int) := by omega
     have hcut := HTO.out B m d (q : Int) hq0 hq1 hmd
     have hcutf := HFROM.out B m d (q : Int) hq0 hq1
     rw [Int.toNat_natCast] at hcut hcutf
     have hdc := Kd.C_drop (k := k72) (m := q) (c := d) (xs := vs.map toS) (by rw [List.length_map, HN.out]; exact HC.out) (by rw [List.length_map, HN.out]; exact hqm) (by rw [List.length_map, HN.out]; exact hmd)
     have hsz3 : k72.sz = 3 := rfl
     rw [hsz3, List.length_drop, List.length_map, HN.out, ← List.map_drop] at hdc
     obtain ⟨B2, hB2⟩ : ∃ B2, (if d = q then B else B.map (·.add (q * 3))) = B2 := ⟨_, rfl⟩
     rw [hB2] at hcutf hdc
     have HDC := Lib.hid hdc
     clear hB2 hdc hsz3
     go_wp2_with fail
     have hCk : Kd.C k72 wr B q ((vs.take q).map toS) := by rw [← toS_take]; exact C_take (Kd.C_below HC.out HB.out) hqm
     refine (HROW.out B d (vs.take q) q (by rw [List.length_take, HN.out]; omega) end_ 92 wr hCk (plain_take HP.out q) (room_of_take q (by rw [HQ.out]; exact Nat.le_refl _)) (.inr h1q)).mono ?_
     rintro e w2 ⟨v1, v2, rfl, hR1, hR2, hb⟩
     obtain ⟨A1, c1, rfl⟩ := Kd.R_slice hR1
     obtain ⟨A2, c2, rfl⟩ := Kd.R_slice hR2
     have HG1 := Lib.hid (Kd.R_lower hR1 HB.out.size)
     have HG2 := Lib.hid (Kd.R_lower hR2 HB.out.size)
     have HRR := Lib.hid (Kd.R_below HR.out hb)
     have HB2 := Lib.hid (below_step HB.out hb)
     clear hR1 hR2 hb hCk HC HR HB
     go_wp2_with ((with_reducible refine gate_builtin (b := .append) (xs := #[.tmp 44, .tmp 46]) rfl ?_); at_builtin; go_must (refine Kd.R_append k39 (w0 := w) (W := w2.alloc (.cells #[.slice A1 (rowX width (List.take q vs) end_ 92).cells.length c1, .slice A2 (rowX width (List.take q vs) end_ 92).pos.length c2, .int .i64 (rowX width (List.take q vs) end_ 92).fr, .int .i64 0, .bool true] 39)) w.heap.size rfl (.tmp 44) (.tmp 46) 27 39 (.agg #[(.slice none 0 0), (.slice none 0 0), (.int .i64 0), (.int .i64 0), (.bool false)]) 72 rfl Tryd.underlying27 info39 rfl (by decide) (by omega) u10 rs (rowLit width (vs.take q) end_ 92 true) [.slice A1 (rowX width (List.take q vs) end_ 92).cells.length c1, .slice A2 (rowX width (List.take q vs) end_ 92).pos.length c2, .int .i64 (rowX width (List.take q vs) end_ 92).fr, .int .i64 0, .bool true] (fun _ => True) (fun k => True ∧ some k ≠ u10.ownBlock) rfl ?aX (row_M (Kd.R_alloc HRR.out (.cells #[.slice A1 (rowX width (List.take q vs) end_ 92).cells.length c1, .slice A2 (rowX width (List.take q vs) end_ 92).pos.length c2, .int .i64 (rowX width (List.take q vs) end_ 92).fr, .int .i64 0, .bool true] 39)) (rowLit width (vs.take q) end_ 92 true) (Kd.R_alloc HG1.out (.cells #[.slice A1 (rowX width (List.take q vs) end_ 92).cells.length c1, .slice A2 (rowX width (List.take q vs) end_ 92).pos.length c2, .int .i64 (rowX width (List.take q vs) end_ 92).fr, .int .i64 0, .bool true] 39)) (Kd.R_alloc HG2.out (.cells #[.slice A1 (rowX width (List.take q vs) end_ 92).cells.length c1, .slice A2 (rowX width (List.take q vs) end_ 92).pos.length c2, .int .i64 (rowX width (List.take q vs) end_ 92).fr, .int .i64 0, .bool true] 39))) (fun _ h => h) (fun _ _ => trivial) (Kd.R_alloc HRR.out (.cells #[.slice A1 (rowX width (List.take q vs) end_ 92).cells.length c1, .slice A2 (rowX width (List.take q vs) end_ 92).pos.length c2, .int .i64 (rowX width (List.take q vs) end_ 92).fr, .int .i64 0, .bool true] 39)) (below_alloc HB2.out (.cells #[.slice A1 (rowX width (List.take q vs) end_ 92).cells.length c1, .slice A2 (rowX width (List.take q vs) end_ 92).pos.length c2, .int .i64 (rowX width (List.take q vs) end_ 92).fr, .int .i64 0, .bool true] 39)) ?aS (by omega) ?_; (case aX => (rw [World.size_alloc]; rfl)); (case aS => exact ((below_alloc HB2.out (.cells #[.slice A1 (rowX width (List.take q vs) end_ 92).cells.length c1, .slice A2 (rowX width (List.take q vs) end_ 92).pos.length c2, .int .i64 (rowX width (List.take q vs) end_ 92).fr, .int .i64 0, .bool true] 39))).size); intro v3 w3 ho hb3 hg3 _; obtain ⟨A3, c3, rfl⟩ := Kd.R_slice ho; have hl : (rs ++ [rowLit width (vs.take q) end_ 92 true]).length = rs.length + 1 := (by simp); rw [hl] at ho; have HRN := Lib.hid ho; have HBN := Lib.hid hb3; clear ho hb3 hg3 HRR HG1 HG2 HB2 hl))
     refine (HROOM.out B2 (d - q) (vs.drop q) (m - q) (by rw [List.length_drop, HN.out]) w3 (Kd.C_below HDC.out HBN.out) (by omega) (plain_drop HP.out q) (by rw [List.length_drop, HN.out]; omega)).mono ?_
     rintro e w4 ⟨rfl, hd⟩
     have HRM := Lib.hid (Kd.R_below HRN.out hd.below)
     have HBM := Lib.hid (below_step HBN.out hd.below)
     have hE := HE.out
     rw [laid_more hw end_ HP.out (by rw [HQ.out, HN.out]; exact hlt), HQ.out, lit_cut width (vs.take q) end_] at hE
     have HEE := Lib.hid hE
     have HNN := Lib.hid (show (vs.drop q).length = m - q by rw [List.length_drop, HN.out])
     clear hd HRN HBN hE HE hcut hcutf
     go_wp2_with fail
     go_roundg (m - q)
     case measure => omega
     case rel =>
      exact ⟨vs.drop q, m - q, B2, d - q, rs ++ [rowLit width (vs.take q) end_ 92 true], rfl, by omega, by omega, by omega, rfl, HNN, Lib.hid (plain_drop HP.out q), HDC, HRM, Lib.hid (by rw [List.append_assoc]; exact HEE.out), HBM, by rw [List.length_append]; simp; omega⟩
    ·obtain rfl : q = m := by omega
     go_wp2_with fail
     refine (HROW.out B d vs q HN.out end_ 0 wr (Kd.C_below HC.out HB.out) HP.out (by rw [HQ.out, HN.out]) (.inl rfl)).mono ?_
     rintro e w2 ⟨v1, v2, rfl, hR1, hR2, hb⟩
     obtain ⟨A1, c1, rfl⟩ := Kd.R_slice hR1
     obtain ⟨A2, c2, rfl⟩ := Kd.R_slice hR2
     have HG1 := Lib.hid (Kd.R_lower hR1 HB.out.size)
     have HG2 := Lib.hid (Kd.R_lower hR2 HB.out.size)
     have HRR := Lib.hid (Kd.R_below HR.out hb)
     have HB2 := Lib.hid (below_step HB.out hb)
     have hE := HE.out
     rw [laid_fit hw true end_ HP.out (by rw [HQ.out, HN.out]), lit_end] at hE
     have HEE := Lib.hid hE
     clear hR1 hR2 hb HC HR HB hE HE
     go_wp2_with ((with_reducible refine gate_builtin (b := .append) (xs := #[.tmp 54, .tmp 59]) rfl ?_); at_builtin; go_must (refine Kd.R_append k39 (w0 := w) (W := w2) w.heap.size rfl (.tmp 54) (.tmp 59) 27 39 (.agg #[(.slice none 0 0), (.slice none 0 0), (.int .i64 0), (.int .i64 0), (.bool false)]) 72 rfl Tryd.underlying27 info39 rfl (by decide) (by omega) u10 rs (rowLit width vs end_ 0 false) [.slice A1 (rowX width vs end_ 0).cells.length c1, .slice A2 (rowX width vs end_ 0).pos.length c2, .int .i64 (rowX width vs end_ 0).fr, .int .i64 0, .bool false] (fun _ => True) (fun k => True ∧ some k ≠ u10.ownBlock) rfl ?bX (row_M HRR.out (rowLit width vs end_ 0 false) HG1.out HG2.out) (fun _ h => h) (fun _ _ => trivial) HRR.out HB2.out ?bS (by omega) ?_; (case bX => first | rfl | (simp; done)); (case bS => exact (HB2.out).size); intro v3 w3 ho hb3 hg3 _; obtain ⟨A3, c3, rfl⟩ := Kd.R_slice ho; have hl : (rs ++ [rowLit width vs end_ 0 false]).length = rs.length + 1 := (by simp); rw [hl] at ho; have HRN := Lib.hid ho; have HBN := Lib.hid hb3; clear ho hb3 hg3 HRR HG1 HG2 HB2 hl))
     go_ret
     rw [← HEE.out]
     exact ⟨_, rfl, HRN.out, HBN.out⟩
end Go.Proofs.YtppjgofjjcdcdaaDoor

/- copyistref35.Check: the same as the program's. -/
namespace Go.Proofs.YtppjgofjjcdcdaaDoor
open PLayoutRows
open Go.RowKit Go.Proofs.YtppjgofjjcdcdaaDoorW.PrintWords Go.Proofs.YtppjgofjjcdcdaaDoorW.PrintLast Go.Proofs.YtppjgofjjcdcdaaDoorW.PrintMore
theorem ck_ret {from_ to_ : Int} {l : List Part} {k : Nat} {a r v : Int} {p : Part} (hk : checkL from_ to_ (l.drop k) a = r) (hd : l.drop k = p :: l.drop (k + 1)) (h : checkP1 p from_ to_ a = v) (hv : v ≠ 0) : r = v := by
 rw [← hk, hd]
 show (if checkP1 p from_ to_ a = 0 then _ else _) = v
 rw [h, if_neg hv]
theorem ck_next {from_ to_ : Int} {l : List Part} {k : Nat} {a r : Int} {p : Part} (hk : checkL from_ to_ (l.drop k) a = r) (hd : l.drop k = p :: l.drop (k + 1)) (h : checkP1 p from_ to_ a = 0) : checkL from_ to_ (l.drop (k + 1)) p.f2 = r := by
 rw [← hk, hd]
 show _ = (if checkP1 p from_ to_ a = 0 then _ else _)
 rw [if_pos h]
def bvP (p : Part) : Bool := (p.f0 == 0 && (p.f2 - p.f1 != (Lib.runeCount p.f3 : Int))) || (p.f0 == 2 && (p.f2 != p.f1))
def PS (b : Nat) (p : Part) (w : World) : Prop := w.cell? ⟨b, 0, none⟩ = some (.int .i64 p.f0) ∧ w.cell? ⟨b, 1, none⟩ = some (.int .i64 p.f1) ∧ w.cell? ⟨b, 2, none⟩ = some (.int .i64 p.f2) ∧ w.cell? ⟨b, 3, none⟩ = some (.string p.f3)
theorem bv_law {p : Part} {from_ to_ : Int} (hv : validP p.f3 = true) (h1 : ¬ (p.f0 < 0 ∨ 2 < p.f0 ∨ validP p.f3 = false)) (h2 : ¬ (p.f1 < from_ ∨ p.f2 < p.f1 ∨ to_ < p.f2)) (a : Int) :
  (bvP p = true → checkP1 p from_ to_ a = 5) ∧ (bvP p = false → checkP1 p from_ to_ a = if p.f1 < a then 19 else 0) := by
 unfold bvP checkP1
 rw [if_neg h1, if_neg h2]
 by_cases c1 : p.f0 = 0 ∧ p.f2 - p.f1 ≠ Lib.runeCount p.f3
 ·rw [if_pos c1]
  exact ⟨fun _ => rfl, fun h => by simp [c1.1, c1.2] at h⟩
 ·rw [if_neg c1]
  by_cases c2 : p.f0 = 2 ∧ p.f2 ≠ p.f1
  ·rw [if_pos c2]
   exact ⟨fun _ => rfl, fun h => by simp [c2.1, c2.2] at h⟩
  ·rw [if_neg c2]
   refine ⟨fun h => ?_, fun _ => rfl⟩
   exfalso
   simp only [Bool.or_eq_true, Bool.and_eq_true, beq_iff_eq, bne_iff_ne] at h
   rcases h with h | h
   ·exact c1 h
   ·exact c2 h
def partB (p : Part) : Obj := .cells (partV p) 55 (0, 0)
theorem part_cells {W : World} {b : Nat} {p : Part} (h : W.heap[b]? = some (partB p)) : W.cell? ⟨b, 0, none⟩ = some (.int .i64 p.f0) ∧ W.cell? ⟨b, 1, none⟩ = some (.int .i64 p.f1) ∧ W.cell? ⟨b, 2, none⟩ = some (.int .i64 p.f2) ∧ W.cell? ⟨b, 3, none⟩ = some (.string p.f3) :=
 ⟨cell_row h rfl, cell_row h rfl, cell_row h rfl, cell_row h rfl⟩
theorem ps_of {W : World} {b : Nat} {p : Part} (h : W.heap[b]? = some (partB p)) : PS b p W := part_cells h
def rckT : Bool × List (List Nat × List Nat) := (true, [([], []), ([0], [0]), ([1], [1]), ([2], [2]), ([3], [3]), ([4, 3], [3, 4]), ([3], [3]), ([6, 3], [3, 6]), ([5, 7, 3], [3, 5, 7]), ([3], [3]), ([9, 3], [3, 9]), ([10, 3, 3], [3, 10]), ([8, 11, 3], [3, 8, 11]), ([3, 12], [3, 12]), ([13, 11], [13]), ([14], [14]), ([15, 14], [14, 15]), ([16, 14], [14, 16]), ([17, 14, 14], [14, 17]), ([18], [18]), ([19, 18], [18, 19]), ([18], [18]), ([21, 18], [18, 21]), ([20, 22, 18], [18, 20, 22]), ([18, 23, 14], [14, 18, 23]), ([14, 24], [14, 24]), ([25, 18], [25])])
def rckB : List Nat := [0, 1, 3, 7, 15, 31, 15, 79, 255, 15, 527, 1551, 4095, 8191, 16383, 32767, 65535, 131071, 262143, 524287, 1048575, 524287, 2621439, 8388607, 16777215, 33554431, 67108863]
theorem rck_tab : rtab .any (opsOf Tryd.f16 12) = rckT := by kernel_rfl
theorem rck_bits : waitsOk rckT.2 rckB = true := by kernel_rfl
set_option maxRecDepth 100000
set_option maxHeartbeats 8000000 in
theorem rcheck_any (A : Option Addr) (c : Nat) (l : List Part) (n : Nat) (hn : l.length = n) (from_ to_ : Int) (w : World) (hC : Kd.C k55 w A n l) (hs : ∀ p ∈ l, p.f3.size ≤ 1000000) :
  Calls Tryd.prog 16 #[.slice A n c, .int .i64 from_, .int .i64 to_] w fun e w' => e = .returned (.int .i64 (checkP l from_ to_)) ∧ Below w.heap.size w w' := by
 have hnb : n ≤ 9223372036854775807 := hC.2.1
 obtain ⟨r, hr⟩ : ∃ r, checkP l from_ to_ = r := ⟨_, rfl⟩
 rw [hr]
 have HC := Lib.hid hC
 have HS := Lib.hid hs
 have HN := Lib.hid hn
 clear hC hs hn
 by_cases h1 : from_ < 1
 ·have HV := Lib.hid (show r = 3 by rw [← hr]; simp [checkP, h1])
  clear hr
  go_enter Tryd.func16, Tryd.ntmps16
  go_wp2_with (first | (((with_reducible refine wpList_unguard ?_ ?_); (focus rfl))) | (((with_reducible refine wpList_pass ?_ (by kernel_rfl) ?_); (focus rfl))))
  go_ret
  exact ⟨by rw [HV.out]; rfl, Below.refl _ _⟩
 by_cases h2 : to_ < from_
 ·have HV := Lib.hid (show r = 3 by rw [← hr]; simp [checkP, h2])
  clear hr
  go_enter Tryd.func16, Tryd.ntmps16
  go_wp2_with (first | (((with_reducible refine wpList_unguard ?_ ?_); (focus rfl))) | (((with_reducible refine wpList_pass ?_ (by kernel_rfl) ?_); (focus rfl))))
  go_ret
  exact ⟨by rw [HV.out]; rfl, Below.refl _ _⟩
 by_cases h3 : 65537 < to_
 ·have HV := Lib.hid (show r = 3 by rw [← hr]; simp [checkP, h3])
  clear hr
  go_enter Tryd.func16, Tryd.ntmps16
  go_wp2_with (first | (((with_reducible refine wpList_unguard ?_ ?_); (focus rfl))) | (((with_reducible refine wpList_pass ?_ (by kernel_rfl) ?_); (focus rfl))))
  go_ret
  exact ⟨by rw [HV.out]; rfl, Below.refl _ _⟩
 have HV := Lib.hid (show checkL from_ to_ l from_ = r by rw [← hr]; unfold checkP; rw [if_neg (by omega)])
 have hf1 : 1 ≤ from_ := by omega
 have ht1 : to_ ≤ 65537 := by omega
 clear hr
 go_enter Tryd.func16, Tryd.ntmps16
 go_wp2_with (first | (((with_reducible refine wpList_unguard ?_ ?_); (focus rfl))) | (((with_reducible refine wpList_pass ?_ (by kernel_rfl) ?_); (focus rfl))))
 go_loopw [7, 8] (fun v7 v8 wr => ∃ (k : Nat) (a : Int), v8 = .int .i64 k ∧ k ≤ n ∧ v7 = .int .i64 a ∧ Hid (checkL from_ to_ (l.drop k) a = r) ∧ Hid (Below w.heap.size w wr)) (fun _ v _ => n - (intOf v).toNat)
 case atStart => exact ⟨0, from_, rfl, Nat.zero_le _, rfl, HV, Lib.hid (Below.refl _ _)⟩
 case round =>
  clear HV
  obtain ⟨k, a, rfl, hk, rfl, HV, HB⟩ := hrel
  by_cases hlt : k < n
  ·obtain ⟨ad, rfl, x0, x1, x2, x3, x4, x5, x6, x7, x8⟩ := at_T55 (Kd.C_below HC.out HB.out) (k : Int) (by omega) (by omega)
   rw [Int.toNat_natCast] at x0 x1 x2 x3 x4 x5 x6 x7 x8
   have hdrop := drop_cons l k (by rw [HN.out]; exact hlt)
   obtain ⟨p, hp⟩ : ∃ p, l.getD k z55 = p := ⟨_, rfl⟩
   have hpr : rd_T55 l (k : Int) = p := hp
   rw [hpr] at x0 x1 x2 x3 x4 x5 x6 x7 x8
   rw [hp] at hdrop
   have HD := Lib.hid hdrop
   have hpm : p.f3.size ≤ 1000000 := HS.out p (by have := List.mem_cons_self (a := p) (l := l.drop (k + 1)); rw [← hdrop] at this; exact List.mem_of_mem_drop this)
   have HVA := Lib.hid (fun W => rvalid_any p.f3 W (by omega))
   have HLE := Lib.hid (fun W => rlen_any p.f3 W (by omega))
   have hk0 : (0 : Int) ≤ (k : Int) := by omega
   have hk1 : (k : Int) < (n : Int) := by omega
   obtain ⟨pa, hpa⟩ : ∃ pa, ad.add (k * 9) = pa := ⟨_, rfl⟩
   rw [hpa] at x0 x1 x2 x3 x4 x5 x6 x7 x8
   clear hp hpr hdrop hpm
   by_cases a1 : p.f0 < 0
   ·have HVV := Lib.hid (ck_ret HV.out HD.out (v := 5) (by unfold checkP1; rw [if_pos (.inl a1)]) (by decide))
    go_wp2
    go_ret
    exact ⟨by rw [HVV.out]; rfl, below_alloc HB.out _⟩
   by_cases a2 : 2 < p.f0
   ·have HVV := Lib.hid (ck_ret HV.out HD.out (v := 5) (by unfold checkP1; rw [if_pos (.inr (.inl a2))]) (by decide))
    go_wp2
    go_ret
    exact ⟨by rw [HVV.out]; rfl, below_alloc HB.out _⟩
   have a2p : p.f0 ≤ 2 := by omega
   go_wp2_with fail
   refine (HVA.out _).mono ?_
   rintro e w2 ⟨rfl, hb2⟩
   have HB2 := Lib.hid (below_step (below_alloc HB.out _) hb2)
   have hbx : w2.heap[wr.heap.size]? = some (partB p) := (hb2.block _ (by rw [World.size_alloc]; omega)).trans (World.alloc_heap_new _ _)
   obtain ⟨z0, z1, z2, z3⟩ := part_cells hbx
   have HBX := Lib.hid hbx
   clear hb2 hbx x0 x1 x2 x3 x4 x5 x6 x7 x8 hpa
   cases hv : validP p.f3 with
   | false =>
    have HVV := Lib.hid (ck_ret HV.out HD.out (v := 5) (by unfold checkP1; rw [if_pos (.inr (.inr hv))]) (by decide))
    go_wp2
    go_ret
    exact ⟨by rw [HVV.out]; rfl, HB2.out⟩
   | true =>
    have HVT := Lib.hid hv
    clear hv
    have hv1 : ¬ (p.f0 < 0 ∨ 2 < p.f0 ∨ validP p.f3 = false) := by rw [HVT.out]; simp; omega
    have HV1 := Lib.hid hv1
    clear hv1
    have a1p : 0 ≤ p.f0 := by omega
    by_cases b1 : p.f1 < from_
    ·have HVV := Lib.hid (ck_ret HV.out HD.out (v := 3) (by unfold checkP1; rw [if_neg HV1.out, if_pos (.inl b1)]) (by decide))
     go_wp2
     go_ret
     exact ⟨by rw [HVV.out]; rfl, HB2.out⟩
    by_cases b2 : p.f2 < p.f1
    ·have HVV := Lib.hid (ck_ret HV.out HD.out (v := 3) (by unfold checkP1; rw [if_neg HV1.out, if_pos (.inr (.inl b2))]) (by decide))
     go_wp2
     go_ret
     exact ⟨by rw [HVV.out]; rfl, HB2.out⟩
    by_cases b3 : to_ < p.f2
    ·have HVV := Lib.hid (ck_ret HV.out HD.out (v := 3) (by unfold checkP1; rw [if_neg HV1.out, if_pos (.inr (.inr b3))]) (by decide))
     go_wp2
     go_ret
     exact ⟨by rw [HVV.out]; rfl, HB2.out⟩
    have HV2 := Lib.hid (show ¬ (p.f1 < from_ ∨ p.f2 < p.f1 ∨ to_ < p.f2) by omega)
    have b1p : from_ ≤ p.f1 := by omega
    have b2p : p.f1 ≤ p.f2 := by omega
    have b3p : p.f2 ≤ to_ := by omega
    clear b1 b2 b3 a1 a2
    obtain ⟨rc, hrc⟩ : ∃ rc : Int, (Lib.runeCount p.f3 : Int) = rc := ⟨_, rfl⟩
    have HLE2 := Lib.hid (fun W (_ : Below w2.heap.size w2 W) => HLE.out W)
    have HRC := Lib.hid hrc
    rw [if_pos HVT.out, hrc] at HLE2
    clear hrc HLE HVA
    go_upto_region 12 with (fail)
    go_cut [65] (fun v wc => v = .bool (bvP p) ∧ Hid (Below w2.heap.size w2 wc))
    case first =>
     by_cases e0 : p.f0 = 0
     ·have hz : (p.f0 == 0) = true := by simp [e0]
      have hz2 : (p.f0 == 2) = false := by simp [e0]
      clear e0
      by_cases hd : p.f2 - p.f1 = rc
      ·have q0 : (wrap64 (p.f2 - p.f1) == rc) = true := by rw [wrap_in (by omega) (by omega)]; simp [hd]
       have q1 : (wrap64 (p.f2 - p.f1) != rc) = false := by rw [wrap_in (by omega) (by omega)]; simp [hd]
       have HBV := Lib.hid (show bvP p = false by unfold bvP; rw [hz, hz2, HRC.out]; simp [hd])
       clear hd
       refine start_ (n := 27) (S := PS wr.heap.size p) (ds := []) #[false, false, false, false, false, false, false, false, false, false, false, false, false, false, false, false, false, false, false, false, false, false, false, false, false, false, false] (by kernel_rfl) rfl rfl (ps_of HBX.out) (fun hHeld => ?_); refine with_tabW rck_tab rck_bits (fun HT_ HW_ => ?_)
       refine pure_ (i := 0) (N := some 66) (v := ?_) (a' := ?_) #[true, false, false, false, false, false, false, false, false, false, false, false, false, false, false, false, false, false, false, false, false, false, false, false, false, false, false] rfl rfl (any_of HT_.out (by kernel_rfl)) (fun _ _ _ h => h) (Or.inl ⟨by rfl, ?_⟩) ?_ ?_
       rotate_left
       ·intro w'
        go_simp
        with_reducible rfl
       rotate_left
       ·simp only [Act.put, List.setIfInBounds_toArray, List.set_cons_zero, List.set_cons_succ, i64_w, i32_w]
        rfl
       refine take_ (i := 1) (N := some 67) (v := ?_) (a' := ?_) #[true, true, false, false, false, false, false, false, false, false, false, false, false, false, false, false, false, false, false, false, false, false, false, false, false, false, false] rfl rfl (take_ofW HT_.out HW_.out (by kernel_rfl)) (fun _ _ _ h => h) (Or.inl ⟨by rfl, ?_⟩) hHeld ?_ ?_
       rotate_left
       ·rintro w' ⟨s0, s1, s2, s3⟩
        go_simp
        with_reducible rfl
       rotate_left
       ·simp only [Act.put, List.setIfInBounds_toArray, List.set_cons_zero, List.set_cons_succ, i64_w, i32_w]
        rfl
       refine pure_ (i := 2) (N := some 68) (v := ?_) (a' := ?_) #[true, true, true, false, false, false, false, false, false, false, false, false, false, false, false, false, false, false, false, false, false, false, false, false, false, false, false] rfl rfl (any_of HT_.out (by kernel_rfl)) (fun _ _ _ h => h) (Or.inl ⟨by rfl, ?_⟩) ?_ ?_
       rotate_left
       ·intro w'
        go_simp
        with_reducible rfl
       rotate_left
       ·simp only [Act.put, List.setIfInBounds_toArray, List.set_cons_zero, List.set_cons_succ, i64_w, i32_w]
        rfl
       refine pure_ (i := 3) (N := some 69) (v := ?_) (a' := ?_) #[true, true, true, true, false, false, false, false, false, false, false, false, false, false, false, false, false, false, false, false, false, false, false, false, false, false, false] rfl rfl (any_of HT_.out (by kernel_rfl)) (fun _ _ _ h => h) (Or.inl ⟨by rfl, ?_⟩) ?_ ?_
       rotate_left
       ·intro w'
        go_simp
        with_reducible rfl
       rotate_left
       ·simp only [Act.put, List.setIfInBounds_toArray, List.set_cons_zero, List.set_cons_succ, i64_w, i32_w]
        rfl
       refine pure_ (i := 4) (N := some 70) (v := ?_) (a' := ?_) #[true, true, true, true, true, false, false, false, false, false, false, false, false, false, false, false, false, false, false, false, false, false, false, false, false, false, false] rfl rfl (any_of HT_.out (by kernel_rfl)) (fun _ _ _ h => h) (Or.inl ⟨by rfl, ?_⟩) ?_ ?_
       rotate_left
       ·intro w'
        go_simp
        with_reducible rfl
       rotate_left
       ·simp only [Act.put, List.setIfInBounds_toArray, List.set_cons_zero, List.set_cons_succ, i64_w, i32_w]
        rfl
       refine pure_ (i := 6) (N := some 72) (v := ?_) (a' := ?_) #[true, true, true, true, true, false, true, false, false, false, false, false, false, false, false, false, false, false, false, false, false, false, false, false, false, false, false] rfl rfl (any_of HT_.out (by kernel_rfl)) (fun _ _ _ h => h) (Or.inl ⟨by rfl, ?_⟩) ?_ ?_
       rotate_left
       ·intro w'
        go_simp
        with_reducible rfl
       rotate_left
       ·simp only [Act.put, List.setIfInBounds_toArray, List.set_cons_zero, List.set_cons_succ, i64_w, i32_w]
        rfl
       refine pure_ (i := 9) (N := some 75) (v := ?_) (a' := ?_) #[true, true, true, true, true, false, true, false, false, true, false, false, false, false, false, false, false, false, false, false, false, false, false, false, false, false, false] rfl rfl (any_of HT_.out (by kernel_rfl)) (fun _ _ _ h => h) (Or.inl ⟨by rfl, ?_⟩) ?_ ?_
       rotate_left
       ·intro w'
        go_simp
        with_reducible rfl
       rotate_left
       ·simp only [Act.put, List.setIfInBounds_toArray, List.set_cons_zero, List.set_cons_succ, i64_w, i32_w]
        rfl
       refine take_ (i := 5) (N := some 71) (v := ?_) (a' := ?_) #[true, true, true, true, true, true, true, false, false, true, false, false, false, false, false, false, false, false, false, false, false, false, false, false, false, false, false] rfl rfl (take_ofW HT_.out HW_.out (by kernel_rfl)) (fun _ _ _ h => h) (Or.inl ⟨by rfl, ?_⟩) hHeld ?_ ?_
       rotate_left
       ·rintro w' ⟨s0, s1, s2, s3⟩
        go_simp
        with_reducible rfl
       rotate_left
       ·simp only [Act.put, List.setIfInBounds_toArray, List.set_cons_zero, List.set_cons_succ, i64_w, i32_w]
        rfl
       refine take_ (i := 7) (N := some 73) (v := ?_) (a' := ?_) #[true, true, true, true, true, true, true, true, false, true, false, false, false, false, false, false, false, false, false, false, false, false, false, false, false, false, false] rfl rfl (take_ofW HT_.out HW_.out (by kernel_rfl)) (fun _ _ _ h => h) (Or.inl ⟨by rfl, ?_⟩) hHeld ?_ ?_
       rotate_left
       ·rintro w' ⟨s0, s1, s2, s3⟩
        go_simp
        with_reducible rfl
       rotate_left
       ·simp only [Act.put, List.setIfInBounds_toArray, List.set_cons_zero, List.set_cons_succ, i64_w, i32_w]
        rfl
       refine pure_ (i := 8) (N := some 74) (v := ?_) (a' := ?_) #[true, true, true, true, true, true, true, true, true, true, false, false, false, false, false, false, false, false, false, false, false, false, false, false, false, false, false] rfl rfl (any_of HT_.out (by kernel_rfl)) (fun _ _ _ h => h) (Or.inl ⟨by rfl, ?_⟩) ?_ ?_
       rotate_left
       ·intro w'
        go_simp
        with_reducible rfl
       rotate_left
       ·simp only [Act.put, List.setIfInBounds_toArray, List.set_cons_zero, List.set_cons_succ, i64_w, i32_w]
        rfl
       refine take_ (i := 10) (N := some 76) (v := ?_) (a' := ?_) #[true, true, true, true, true, true, true, true, true, true, true, false, false, false, false, false, false, false, false, false, false, false, false, false, false, false, false] rfl rfl (take_ofW HT_.out HW_.out (by kernel_rfl)) (fun _ _ _ h => h) (Or.inl ⟨by rfl, ?_⟩) hHeld ?_ ?_
       rotate_left
       ·rintro w' ⟨s0, s1, s2, s3⟩
        go_simp
        with_reducible rfl
       rotate_left
       ·simp only [Act.put, List.setIfInBounds_toArray, List.set_cons_zero, List.set_cons_succ, i64_w, i32_w]
        rfl
       refine one_ (i := 11) (N := some 77) #[true, true, true, true, true, true, true, true, true, true, true, true, false, false, false, false, false, false, false, false, false, false, false, false, false, false, false] rfl rfl (one_of HT_.out (by kernel_rfl)) (by decide) (fun K hK => ?_)
       refine goes_ Tryd.func41 (by kernel_rfl) rfl #[.string p.f3] (by rfl) rfl rfl (by (try simp only [List.map_toArray, List.map_cons, List.map_nil]); first | done | rfl | (simp only [List.length_drop, List.length_take]; rfl)) ?_
       with_reducible refine (HLE2.out w2.drew (below_drew1 (Below.refl w2.heap.size w2))).mono ?_
       rintro e w34 ⟨rfl, hb⟩
       refine ⟨_, rfl, ?_⟩
       have HBX4 := Lib.hid ((hb.block _ (lt_of_block HBX.out)).trans HBX.out)
       have HB4 := Lib.hid (below_drew1 (Below.refl w2.heap.size w2))
       refine hK.out _ _ (ps_of HBX4.out) (fun hHeld => ?_)
       clear hK K
       refine norm_ (a' := ?_) ?_ ?_
       rotate_left
       ·show Act.put _ (some 77) _ = _
        simp only [Act.put, List.setIfInBounds_toArray, List.set_cons_zero, List.set_cons_succ, i64_w, i32_w]
        rfl
       refine pure_ (i := 12) (N := some 78) (v := ?_) (a' := ?_) #[true, true, true, true, true, true, true, true, true, true, true, true, true, false, false, false, false, false, false, false, false, false, false, false, false, false, false] rfl rfl (any_of HT_.out (by kernel_rfl)) (fun _ _ _ h => h) (Or.inl ⟨by rfl, ?_⟩) ?_ ?_
       rotate_left
       ·intro w'
        go_simp
        with_reducible rfl
       rotate_left
       ·simp only [Act.put, List.setIfInBounds_toArray, List.set_cons_zero, List.set_cons_succ, i64_w, i32_w]
        rfl
       refine pure_ (i := 13) (N := some 79) (v := ?_) (a' := ?_) #[true, true, true, true, true, true, true, true, true, true, true, true, true, true, false, false, false, false, false, false, false, false, false, false, false, false, false] rfl rfl (any_of HT_.out (by kernel_rfl)) (fun _ _ _ h => h) (Or.inl ⟨by rfl, ?_⟩) ?_ ?_
       rotate_left
       ·intro w'
        go_simp
        with_reducible rfl
       rotate_left
       ·simp only [Act.put, List.setIfInBounds_toArray, List.set_cons_zero, List.set_cons_succ, i64_w, i32_w]
        rfl
       refine pure_ (i := 14) (N := some 80) (v := ?_) (a' := ?_) #[true, true, true, true, true, true, true, true, true, true, true, true, true, true, true, false, false, false, false, false, false, false, false, false, false, false, false] rfl rfl (any_of HT_.out (by kernel_rfl)) (fun _ _ _ h => h) (Or.inl ⟨by rfl, ?_⟩) ?_ ?_
       rotate_left
       ·intro w'
        go_simp
        with_reducible rfl
       rotate_left
       ·simp only [Act.put, List.setIfInBounds_toArray, List.set_cons_zero, List.set_cons_succ, i64_w, i32_w]
        rfl
       refine pure_ (i := 15) (N := some 81) (v := ?_) (a' := ?_) #[true, true, true, true, true, true, true, true, true, true, true, true, true, true, true, true, false, false, false, false, false, false, false, false, false, false, false] rfl rfl (any_of HT_.out (by kernel_rfl)) (fun _ _ _ h => h) (Or.inl ⟨by rfl, ?_⟩) ?_ ?_
       rotate_left
       ·intro w'
        go_simp
        with_reducible rfl
       rotate_left
       ·simp only [Act.put, List.setIfInBounds_toArray, List.set_cons_zero, List.set_cons_succ, i64_w, i32_w]
        rfl
       refine take_ (i := 16) (N := some 82) (v := ?_) (a' := ?_) #[true, true, true, true, true, true, true, true, true, true, true, true, true, true, true, true, true, false, false, false, false, false, false, false, false, false, false] rfl rfl (take_ofW HT_.out HW_.out (by kernel_rfl)) (fun _ _ _ h => h) (Or.inl ⟨by rfl, ?_⟩) hHeld ?_ ?_
       rotate_left
       ·rintro w' ⟨s0, s1, s2, s3⟩
        go_simp
        with_reducible rfl
       rotate_left
       ·simp only [Act.put, List.setIfInBounds_toArray, List.set_cons_zero, List.set_cons_succ, i64_w, i32_w]
        rfl
       refine pure_ (i := 17) (N := some 83) (v := ?_) (a' := ?_) #[true, true, true, true, true, true, true, true, true, true, true, true, true, true, true, true, true, true, false, false, false, false, false, false, false, false, false] rfl rfl (any_of HT_.out (by kernel_rfl)) (fun _ _ _ h => h) (Or.inl ⟨by rfl, ?_⟩) ?_ ?_
       rotate_left
       ·intro w'
        go_simp
        with_reducible rfl
       rotate_left
       ·simp only [Act.put, List.setIfInBounds_toArray, List.set_cons_zero, List.set_cons_succ, i64_w, i32_w]
        rfl
       refine pure_ (i := 18) (N := some 84) (v := ?_) (a' := ?_) #[true, true, true, true, true, true, true, true, true, true, true, true, true, true, true, true, true, true, true, false, false, false, false, false, false, false, false] rfl rfl (any_of HT_.out (by kernel_rfl)) (fun _ _ _ h => h) (Or.inl ⟨by rfl, ?_⟩) ?_ ?_
       rotate_left
       ·intro w'
        go_simp
        with_reducible rfl
       rotate_left
       ·simp only [Act.put, List.setIfInBounds_toArray, List.set_cons_zero, List.set_cons_succ, i64_w, i32_w]
        rfl
       refine pure_ (i := 19) (N := some 85) (v := undef) (a' := ?_) #[true, true, true, true, true, true, true, true, true, true, true, true, true, true, true, true, true, true, true, true, false, false, false, false, false, false, false] rfl rfl (any_of HT_.out (by kernel_rfl)) (fun _ _ _ h => h) (Or.inr ⟨by rfl, rfl⟩) ?_ ?_
       rotate_left
       ·simp only [Act.put, List.setIfInBounds_toArray, List.set_cons_zero, List.set_cons_succ, i64_w, i32_w]
        rfl
       refine pure_ (i := 20) (N := some 86) (v := undef) (a' := ?_) #[true, true, true, true, true, true, true, true, true, true, true, true, true, true, true, true, true, true, true, true, true, false, false, false, false, false, false] rfl rfl (any_of HT_.out (by kernel_rfl)) (fun _ _ _ h => h) (Or.inr ⟨by rfl, rfl⟩) ?_ ?_
       rotate_left
       ·simp only [Act.put, List.setIfInBounds_toArray, List.set_cons_zero, List.set_cons_succ, i64_w, i32_w]
        rfl
       refine pure_ (i := 21) (N := some 87) (v := undef) (a' := ?_) #[true, true, true, true, true, true, true, true, true, true, true, true, true, true, true, true, true, true, true, true, true, true, false, false, false, false, false] rfl rfl (any_of HT_.out (by kernel_rfl)) (fun _ _ _ h => h) (Or.inr ⟨by rfl, rfl⟩) ?_ ?_
       rotate_left
       ·simp only [Act.put, List.setIfInBounds_toArray, List.set_cons_zero, List.set_cons_succ, i64_w, i32_w]
        rfl
       refine pure_ (i := 22) (N := some 88) (v := undef) (a' := ?_) #[true, true, true, true, true, true, true, true, true, true, true, true, true, true, true, true, true, true, true, true, true, true, true, false, false, false, false] rfl rfl (any_of HT_.out (by kernel_rfl)) (fun _ _ _ h => h) (Or.inr ⟨by rfl, rfl⟩) ?_ ?_
       rotate_left
       ·simp only [Act.put, List.setIfInBounds_toArray, List.set_cons_zero, List.set_cons_succ, i64_w, i32_w]
        rfl
       refine pure_ (i := 23) (N := some 89) (v := undef) (a' := ?_) #[true, true, true, true, true, true, true, true, true, true, true, true, true, true, true, true, true, true, true, true, true, true, true, true, false, false, false] rfl rfl (any_of HT_.out (by kernel_rfl)) (fun _ _ _ h => h) (Or.inr ⟨by rfl, rfl⟩) ?_ ?_
       rotate_left
       ·simp only [Act.put, List.setIfInBounds_toArray, List.set_cons_zero, List.set_cons_succ, i64_w, i32_w]
        rfl
       refine pure_ (i := 24) (N := some 90) (v := ?_) (a' := ?_) #[true, true, true, true, true, true, true, true, true, true, true, true, true, true, true, true, true, true, true, true, true, true, true, true, true, false, false] rfl rfl (any_of HT_.out (by kernel_rfl)) (fun _ _ _ h => h) (Or.inl ⟨by rfl, ?_⟩) ?_ ?_
       rotate_left
       ·intro w'
        go_simp
        with_reducible rfl
       rotate_left
       ·simp only [Act.put, List.setIfInBounds_toArray, List.set_cons_zero, List.set_cons_succ, i64_w, i32_w]
        rfl
       refine pure_ (i := 25) (N := some 91) (v := ?_) (a' := ?_) #[true, true, true, true, true, true, true, true, true, true, true, true, true, true, true, true, true, true, true, true, true, true, true, true, true, true, false] rfl rfl (any_of HT_.out (by kernel_rfl)) (fun _ _ _ h => h) (Or.inl ⟨by rfl, ?_⟩) ?_ ?_
       rotate_left
       ·intro w'
        go_simp
        with_reducible rfl
       rotate_left
       ·simp only [Act.put, List.setIfInBounds_toArray, List.set_cons_zero, List.set_cons_succ, i64_w, i32_w]
        rfl
       refine pure_ (i := 26) (N := some 65) (v := ?_) (a' := ?_) #[true, true, true, true, true, true, true, true, true, true, true, true, true, true, true, true, true, true, true, true, true, true, true, true, true, true, true] rfl rfl (any_of HT_.out (by kernel_rfl)) (fun _ _ _ h => h) (Or.inl ⟨by rfl, ?_⟩) ?_ ?_
       rotate_left
       ·intro w'
        go_simp
        with_reducible rfl
       rotate_left
       ·simp only [Act.put, List.setIfInBounds_toArray, List.set_cons_zero, List.set_cons_succ, i64_w, i32_w]
        rfl
       refine done_ (done_of HT_.out (by kernel_rfl)) ?_
       try go_wp2
       go_meet
       case rel => exact ⟨by rw [HBV.out], Lib.hid (below_step HB4.out hb)⟩
      ·have q0 : (wrap64 (p.f2 - p.f1) == rc) = false := by rw [wrap_in (by omega) (by omega)]; simp [hd]
       have q1 : (wrap64 (p.f2 - p.f1) != rc) = true := by rw [wrap_in (by omega) (by omega)]; simp [hd]
       have HBV := Lib.hid (show bvP p = true by unfold bvP; rw [hz, hz2, HRC.out]; simp [hd])
       clear hd
       refine start_ (n := 27) (S := PS wr.heap.size p) (ds := []) #[false, false, false, false, false, false, false, false, false, false, false, false, false, false, false, false, false, false, false, false, false, false, false, false, false, false, false] (by kernel_rfl) rfl rfl (ps_of HBX.out) (fun hHeld => ?_); refine with_tabW rck_tab rck_bits (fun HT_ HW_ => ?_)
       refine pure_ (i := 0) (N := some 66) (v := ?_) (a' := ?_) #[true, false, false, false, false, false, false, false, false, false, false, false, false, false, false, false, false, false, false, false, false, false, false, false, false, false, false] rfl rfl (any_of HT_.out (by kernel_rfl)) (fun _ _ _ h => h) (Or.inl ⟨by rfl, ?_⟩) ?_ ?_
       rotate_left
       ·intro w'
        go_simp
        with_reducible rfl
       rotate_left
       ·simp only [Act.put, List.setIfInBounds_toArray, List.set_cons_zero, List.set_cons_succ, i64_w, i32_w]
        rfl
       refine take_ (i := 1) (N := some 67) (v := ?_) (a' := ?_) #[true, true, false, false, false, false, false, false, false, false, false, false, false, false, false, false, false, false, false, false, false, false, false, false, false, false, false] rfl rfl (take_ofW HT_.out HW_.out (by kernel_rfl)) (fun _ _ _ h => h) (Or.inl ⟨by rfl, ?_⟩) hHeld ?_ ?_
       rotate_left
       ·rintro w' ⟨s0, s1, s2, s3⟩
        go_simp
        with_reducible rfl
       rotate_left
       ·simp only [Act.put, List.setIfInBounds_toArray, List.set_cons_zero, List.set_cons_succ, i64_w, i32_w]
        rfl
       refine pure_ (i := 2) (N := some 68) (v := ?_) (a' := ?_) #[true, true, true, false, false, false, false, false, false, false, false, false, false, false, false, false, false, false, false, false, false, false, false, false, false, false, false] rfl rfl (any_of HT_.out (by kernel_rfl)) (fun _ _ _ h => h) (Or.inl ⟨by rfl, ?_⟩) ?_ ?_
       rotate_left
       ·intro w'
        go_simp
        with_reducible rfl
       rotate_left
       ·simp only [Act.put, List.setIfInBounds_toArray, List.set_cons_zero, List.set_cons_succ, i64_w, i32_w]
        rfl
       refine pure_ (i := 3) (N := some 69) (v := ?_) (a' := ?_) #[true, true, true, true, false, false, false, false, false, false, false, false, false, false, false, false, false, false, false, false, false, false, false, false, false, false, false] rfl rfl (any_of HT_.out (by kernel_rfl)) (fun _ _ _ h => h) (Or.inl ⟨by rfl, ?_⟩) ?_ ?_
       rotate_left
       ·intro w'
        go_simp
        with_reducible rfl
       rotate_left
       ·simp only [Act.put, List.setIfInBounds_toArray, List.set_cons_zero, List.set_cons_succ, i64_w, i32_w]
        rfl
       refine pure_ (i := 4) (N := some 70) (v := ?_) (a' := ?_) #[true, true, true, true, true, false, false, false, false, false, false, false, false, false, false, false, false, false, false, false, false, false, false, false, false, false, false] rfl rfl (any_of HT_.out (by kernel_rfl)) (fun _ _ _ h => h) (Or.inl ⟨by rfl, ?_⟩) ?_ ?_
       rotate_left
       ·intro w'
        go_simp
        with_reducible rfl
       rotate_left
       ·simp only [Act.put, List.setIfInBounds_toArray, List.set_cons_zero, List.set_cons_succ, i64_w, i32_w]
        rfl
       refine pure_ (i := 6) (N := some 72) (v := ?_) (a' := ?_) #[true, true, true, true, true, false, true, false, false, false, false, false, false, false, false, false, false, false, false, false, false, false, false, false, false, false, false] rfl rfl (any_of HT_.out (by kernel_rfl)) (fun _ _ _ h => h) (Or.inl ⟨by rfl, ?_⟩) ?_ ?_
       rotate_left
       ·intro w'
        go_simp
        with_reducible rfl
       rotate_left
       ·simp only [Act.put, List.setIfInBounds_toArray, List.set_cons_zero, List.set_cons_succ, i64_w, i32_w]
        rfl
       refine pure_ (i := 9) (N := some 75) (v := ?_) (a' := ?_) #[true, true, true, true, true, false, true, false, false, true, false, false, false, false, false, false, false, false, false, false, false, false, false, false, false, false, false] rfl rfl (any_of HT_.out (by kernel_rfl)) (fun _ _ _ h => h) (Or.inl ⟨by rfl, ?_⟩) ?_ ?_
       rotate_left
       ·intro w'
        go_simp
        with_reducible rfl
       rotate_left
       ·simp only [Act.put, List.setIfInBounds_toArray, List.set_cons_zero, List.set_cons_succ, i64_w, i32_w]
        rfl
       refine take_ (i := 5) (N := some 71) (v := ?_) (a' := ?_) #[true, true, true, true, true, true, true, false, false, true, false, false, false, false, false, false, false, false, false, false, false, false, false, false, false, false, false] rfl rfl (take_ofW HT_.out HW_.out (by kernel_rfl)) (fun _ _ _ h => h) (Or.inl ⟨by rfl, ?_⟩) hHeld ?_ ?_
       rotate_left
       ·rintro w' ⟨s0, s1, s2, s3⟩
        go_simp
        with_reducible rfl
       rotate_left
       ·simp only [Act.put, List.setIfInBounds_toArray, List.set_cons_zero, List.set_cons_succ, i64_w, i32_w]
        rfl
       refine take_ (i := 7) (N := some 73) (v := ?_) (a' := ?_) #[true, true, true, true, true, true, true, true, false, true, false, false, false, false, false, false, false, false, false, false, false, false, false, false, false, false, false] rfl rfl (take_ofW HT_.out HW_.out (by kernel_rfl)) (fun _ _ _ h => h) (Or.inl ⟨by rfl, ?_⟩) hHeld ?_ ?_
       rotate_left
       ·rintro w' ⟨s0, s1, s2, s3⟩
        go_simp
        with_reducible rfl
       rotate_left
       ·simp only [Act.put, List.setIfInBounds_toArray, List.set_cons_zero, List.set_cons_succ, i64_w, i32_w]
        rfl
       refine pure_ (i := 8) (N := some 74) (v := ?_) (a' := ?_) #[true, true, true, true, true, true, true, true, true, true, false, false, false, false, false, false, false, false, false, false, false, false, false, false, false, false, false] rfl rfl (any_of HT_.out (by kernel_rfl)) (fun _ _ _ h => h) (Or.inl ⟨by rfl, ?_⟩) ?_ ?_
       rotate_left
       ·intro w'
        go_simp
        with_reducible rfl
       rotate_left
       ·simp only [Act.put, List.setIfInBounds_toArray, List.set_cons_zero, List.set_cons_succ, i64_w, i32_w]
        rfl
       refine take_ (i := 10) (N := some 76) (v := ?_) (a' := ?_) #[true, true, true, true, true, true, true, true, true, true, true, false, false, false, false, false, false, false, false, false, false, false, false, false, false, false, false] rfl rfl (take_ofW HT_.out HW_.out (by kernel_rfl)) (fun _ _ _ h => h) (Or.inl ⟨by rfl, ?_⟩) hHeld ?_ ?_
       rotate_left
       ·rintro w' ⟨s0, s1, s2, s3⟩
        go_simp
        with_reducible rfl
       rotate_left
       ·simp only [Act.put, List.setIfInBounds_toArray, List.set_cons_zero, List.set_cons_succ, i64_w, i32_w]
        rfl
       refine one_ (i := 11) (N := some 77) #[true, true, true, true, true, true, true, true, true, true, true, true, false, false, false, false, false, false, false, false, false, false, false, false, false, false, false] rfl rfl (one_of HT_.out (by kernel_rfl)) (by decide) (fun K hK => ?_)
       refine goes_ Tryd.func41 (by kernel_rfl) rfl #[.string p.f3] (by rfl) rfl rfl (by (try simp only [List.map_toArray, List.map_cons, List.map_nil]); first | done | rfl | (simp only [List.length_drop, List.length_take]; rfl)) ?_
       with_reducible refine (HLE2.out w2.drew (below_drew1 (Below.refl w2.heap.size w2))).mono ?_
       rintro e w34 ⟨rfl, hb⟩
       refine ⟨_, rfl, ?_⟩
       have HBX4 := Lib.hid ((hb.block _ (lt_of_block HBX.out)).trans HBX.out)
       have HB4 := Lib.hid (below_drew1 (Below.refl w2.heap.size w2))
       refine hK.out _ _ (ps_of HBX4.out) (fun hHeld => ?_)
       clear hK K
       refine norm_ (a' := ?_) ?_ ?_
       rotate_left
       ·show Act.put _ (some 77) _ = _
        simp only [Act.put, List.setIfInBounds_toArray, List.set_cons_zero, List.set_cons_succ, i64_w, i32_w]
        rfl
       refine pure_ (i := 12) (N := some 78) (v := ?_) (a' := ?_) #[true, true, true, true, true, true, true, true, true, true, true, true, true, false, false, false, false, false, false, false, false, false, false, false, false, false, false] rfl rfl (any_of HT_.out (by kernel_rfl)) (fun _ _ _ h => h) (Or.inl ⟨by rfl, ?_⟩) ?_ ?_
       rotate_left
       ·intro w'
        go_simp
        with_reducible rfl
       rotate_left
       ·simp only [Act.put, List.setIfInBounds_toArray, List.set_cons_zero, List.set_cons_succ, i64_w, i32_w]
        rfl
       refine pure_ (i := 13) (N := some 79) (v := ?_) (a' := ?_) #[true, true, true, true, true, true, true, true, true, true, true, true, true, true, false, false, false, false, false, false, false, false, false, false, false, false, false] rfl rfl (any_of HT_.out (by kernel_rfl)) (fun _ _ _ h => h) (Or.inl ⟨by rfl, ?_⟩) ?_ ?_
       rotate_left
       ·intro w'
        go_simp
        with_reducible rfl
       rotate_left
       ·simp only [Act.put, List.setIfInBounds_toArray, List.set_cons_zero, List.set_cons_succ, i64_w, i32_w]
        rfl
       refine pure_ (i := 14) (N := some 80) (v := ?_) (a' := ?_) #[true, true, true, true, true, true, true, true, true, true, true, true, true, true, true, false, false, false, false, false, false, false, false, false, false, false, false] rfl rfl (any_of HT_.out (by kernel_rfl)) (fun _ _ _ h => h) (Or.inl ⟨by rfl, ?_⟩) ?_ ?_
       rotate_left
       ·intro w'
        go_simp
        with_reducible rfl
       rotate_left
       ·simp only [Act.put, List.setIfInBounds_toArray, List.set_cons_zero, List.set_cons_succ, i64_w, i32_w]
        rfl
       refine pure_ (i := 15) (N := some 81) (v := undef) (a' := ?_) #[true, true, true, true, true, true, true, true, true, true, true, true, true, true, true, true, false, false, false, false, false, false, false, false, false, false, false] rfl rfl (any_of HT_.out (by kernel_rfl)) (fun _ _ _ h => h) (Or.inr ⟨by rfl, rfl⟩) ?_ ?_
       rotate_left
       ·simp only [Act.put, List.setIfInBounds_toArray, List.set_cons_zero, List.set_cons_succ, i64_w, i32_w]
        rfl
       refine pure_ (i := 16) (N := some 82) (v := undef) (a' := ?_) #[true, true, true, true, true, true, true, true, true, true, true, true, true, true, true, true, true, false, false, false, false, false, false, false, false, false, false] rfl rfl (any_of HT_.out (by kernel_rfl)) (fun _ _ _ h => h) (Or.inr ⟨by rfl, rfl⟩) ?_ ?_
       rotate_left
       ·simp only [Act.put, List.setIfInBounds_toArray, List.set_cons_zero, List.set_cons_succ, i64_w, i32_w]
        rfl
       refine pure_ (i := 17) (N := some 83) (v := undef) (a' := ?_) #[true, true, true, true, true, true, true, true, true, true, true, true, true, true, true, true, true, true, false, false, false, false, false, false, false, false, false] rfl rfl (any_of HT_.out (by kernel_rfl)) (fun _ _ _ h => h) (Or.inr ⟨by rfl, rfl⟩) ?_ ?_
       rotate_left
       ·simp only [Act.put, List.setIfInBounds_toArray, List.set_cons_zero, List.set_cons_succ, i64_w, i32_w]
        rfl
       refine pure_ (i := 18) (N := some 84) (v := undef) (a' := ?_) #[true, true, true, true, true, true, true, true, true, true, true, true, true, true, true, true, true, true, true, false, false, false, false, false, false, false, false] rfl rfl (any_of HT_.out (by kernel_rfl)) (fun _ _ _ h => h) (Or.inr ⟨by rfl, rfl⟩) ?_ ?_
       rotate_left
       ·simp only [Act.put, List.setIfInBounds_toArray, List.set_cons_zero, List.set_cons_succ, i64_w, i32_w]
        rfl
       refine pure_ (i := 19) (N := some 85) (v := undef) (a' := ?_) #[true, true, true, true, true, true, true, true, true, true, true, true, true, true, true, true, true, true, true, true, false, false, false, false, false, false, false] rfl rfl (any_of HT_.out (by kernel_rfl)) (fun _ _ _ h => h) (Or.inr ⟨by rfl, rfl⟩) ?_ ?_
       rotate_left
       ·simp only [Act.put, List.setIfInBounds_toArray, List.set_cons_zero, List.set_cons_succ, i64_w, i32_w]
        rfl
       refine pure_ (i := 20) (N := some 86) (v := undef) (a' := ?_) #[true, true, true, true, true, true, true, true, true, true, true, true, true, true, true, true, true, true, true, true, true, false, false, false, false, false, false] rfl rfl (any_of HT_.out (by kernel_rfl)) (fun _ _ _ h => h) (Or.inr ⟨by rfl, rfl⟩) ?_ ?_
       rotate_left
       ·simp only [Act.put, List.setIfInBounds_toArray, List.set_cons_zero, List.set_cons_succ, i64_w, i32_w]
        rfl
       refine pure_ (i := 21) (N := some 87) (v := undef) (a' := ?_) #[true, true, true, true, true, true, true, true, true, true, true, true, true, true, true, true, true, true, true, true, true, true, false, false, false, false, false] rfl rfl (any_of HT_.out (by kernel_rfl)) (fun _ _ _ h => h) (Or.inr ⟨by rfl, rfl⟩) ?_ ?_
       rotate_left
       ·simp only [Act.put, List.setIfInBounds_toArray, List.set_cons_zero, List.set_cons_succ, i64_w, i32_w]
        rfl
       refine pure_ (i := 22) (N := some 88) (v := undef) (a' := ?_) #[true, true, true, true, true, true, true, true, true, true, true, true, true, true, true, true, true, true, true, true, true, true, true, false, false, false, false] rfl rfl (any_of HT_.out (by kernel_rfl)) (fun _ _ _ h => h) (Or.inr ⟨by rfl, rfl⟩) ?_ ?_
       rotate_left
       ·simp only [Act.put, List.setIfInBounds_toArray, List.set_cons_zero, List.set_cons_succ, i64_w, i32_w]
        rfl
       refine pure_ (i := 23) (N := some 89) (v := undef) (a' := ?_) #[true, true, true, true, true, true, true, true, true, true, true, true, true, true, true, true, true, true, true, true, true, true, true, true, false, false, false] rfl rfl (any_of HT_.out (by kernel_rfl)) (fun _ _ _ h => h) (Or.inr ⟨by rfl, rfl⟩) ?_ ?_
       rotate_left
       ·simp only [Act.put, List.setIfInBounds_toArray, List.set_cons_zero, List.set_cons_succ, i64_w, i32_w]
        rfl
       refine pure_ (i := 24) (N := some 90) (v := undef) (a' := ?_) #[true, true, true, true, true, true, true, true, true, true, true, true, true, true, true, true, true, true, true, true, true, true, true, true, true, false, false] rfl rfl (any_of HT_.out (by kernel_rfl)) (fun _ _ _ h => h) (Or.inr ⟨by rfl, rfl⟩) ?_ ?_
       rotate_left
       ·simp only [Act.put, List.setIfInBounds_toArray, List.set_cons_zero, List.set_cons_succ, i64_w, i32_w]
        rfl
       refine pure_ (i := 25) (N := some 91) (v := ?_) (a' := ?_) #[true, true, true, true, true, true, true, true, true, true, true, true, true, true, true, true, true, true, true, true, true, true, true, true, true, true, false] rfl rfl (any_of HT_.out (by kernel_rfl)) (fun _ _ _ h => h) (Or.inl ⟨by rfl, ?_⟩) ?_ ?_
       rotate_left
       ·intro w'
        go_simp
        with_reducible rfl
       rotate_left
       ·simp only [Act.put, List.setIfInBounds_toArray, List.set_cons_zero, List.set_cons_succ, i64_w, i32_w]
        rfl
       refine pure_ (i := 26) (N := some 65) (v := ?_) (a' := ?_) #[true, true, true, true, true, true, true, true, true, true, true, true, true, true, true, true, true, true, true, true, true, true, true, true, true, true, true] rfl rfl (any_of HT_.out (by kernel_rfl)) (fun _ _ _ h => h) (Or.inl ⟨by rfl, ?_⟩) ?_ ?_
       rotate_left
       ·intro w'
        go_simp
        with_reducible rfl
       rotate_left
       ·simp only [Act.put, List.setIfInBounds_toArray, List.set_cons_zero, List.set_cons_succ, i64_w, i32_w]
        rfl
       refine done_ (done_of HT_.out (by kernel_rfl)) ?_
       try go_wp2
       go_meet
       case rel => exact ⟨by rw [HBV.out], Lib.hid (below_step HB4.out hb)⟩
     ·have hz : (p.f0 == 0) = false := by simp [e0]
      clear e0
      by_cases e2 : p.f0 = 2
      ·have hz2 : (p.f0 == 2) = true := by simp [e2]
       by_cases hd : p.f2 = p.f1
       ·have q1 : (p.f2 != p.f1) = false := by simp [hd]
        have HBV := Lib.hid (show bvP p = false by unfold bvP; rw [hz, hz2]; simp [hd])
        clear hd e2
        go_quiet (fail)
        go_wp2
        go_meet
        case rel => exact ⟨by rw [HBV.out], Lib.hid (pw_below_drewN (Below.refl _ _) _)⟩
       ·have q1 : (p.f2 != p.f1) = true := by simp [hd]
        have HBV := Lib.hid (show bvP p = true by unfold bvP; rw [hz, hz2]; simp [hd])
        clear hd e2
        go_quiet (fail)
        go_wp2
        go_meet
        case rel => exact ⟨by rw [HBV.out], Lib.hid (pw_below_drewN (Below.refl _ _) _)⟩
      ·have hz2 : (p.f0 == 2) = false := by simp [e2]
       have HBV := Lib.hid (show bvP p = false by unfold bvP; rw [hz, hz2]; simp)
       clear e2
       go_quiet (fail)
       go_wp2
       go_meet
       case rel => exact ⟨by rw [HBV.out], Lib.hid (pw_below_drewN (Below.refl _ _) _)⟩
    case rest =>
     obtain ⟨rfl, HB3⟩ := hcut
     have HB4 := Lib.hid (below_step HB2.out HB3.out)
     have hbx := (HB3.out.block _ (lt_of_block HBX.out)).trans HBX.out
     obtain ⟨y0, y1, y2, y3⟩ := part_cells hbx
     have HLI := Lib.hid (bv_law HVT.out HV1.out HV2.out a)
     clear hbx z0 z1 z2 z3
     cases hbv : bvP p with
     | true =>
      have HVV := Lib.hid (ck_ret HV.out HD.out (v := 5) (HLI.out.1 hbv) (by decide))
      go_wp2
      go_ret
      exact ⟨by rw [HVV.out]; rfl, HB4.out⟩
     | false =>
      by_cases hpa : p.f1 < a
      ·have HVV := Lib.hid (ck_ret HV.out HD.out (v := 19) (by rw [HLI.out.2 hbv, if_pos hpa]) (by decide))
       clear hbv
       go_wp2
       go_ret
       exact ⟨by rw [HVV.out]; rfl, HB4.out⟩
      ·have HVN := Lib.hid (ck_next HV.out HD.out (by rw [HLI.out.2 hbv, if_neg hpa]))
       clear hbv
       go_wp2
       go_roundw
       case rel => exact ⟨k + 1, p.f2, by go_num, by omega, rfl, HVN, HB4⟩
       case measure => simp [intOf]; omega
  ·obtain rfl : k = n := by omega
   have hv := HV.out
   rw [List.drop_of_length_le (by rw [HN.out]; exact Nat.le_refl _)] at hv
   have HVV := Lib.hid (show r = 0 from hv.symm)
   clear hv
   go_wp2
   go_ret
   exact ⟨by rw [HVV.out]; rfl, HB.out⟩
end Go.Proofs.YtppjgofjjcdcdaaDoor

/- Plain laws for the walk of copyistref35.Rows: its columns, its sizes, the To of its rows. -/
namespace Go.Proofs.YtppjgofjjcdcdaaDoor
open PLayoutRows
def refColS (c : Int) (v : Unt) : Int := if v.feed then 0 else c + v.cells.length
theorem col_rep (u : Unt) (hu : u.feed = false) : ∀ (n : Nat) (c : Int), (List.replicate n u).foldl refColS c = c + n * u.cells.length
 | 0, c => by simp
 | n + 1, c => by
  rw [List.replicate_succ, List.foldl_cons, col_rep u hu n]
  have : refColS c u = c + u.cells.length := by unfold refColS; rw [if_neg (by rw [hu]; simp)]
  rw [this]
  have e : ((n + 1 : Nat) : Int) * (u.cells.length : Int) = n * u.cells.length + u.cells.length := by rw [Int.natCast_add, Int.add_mul]; simp
  rw [e]; omega
theorem one_col (tab col : Int) (x : Chr) (h1 : 1 ≤ tab) (hc : 0 ≤ col) : (oneU tab col x).1.foldl refColS col = (oneU tab col x).2 := by
 have hp := tabN_pos tab col h1 hc
 unfold oneU
 split
 ·rfl
 ·split
  ·rw [col_rep _ rfl]
   show col + ((tabN tab col).toNat : Int) * (([⟨32, x.look⟩] : List Cell).length : Int) = col + tabN tab col
   simp; omega
  ·split
   ·rfl
   ·rfl
theorem refS_app (width : Nat) (wrap : Bool) (limit : Nat) (U V : List Unt) : refS width wrap limit (U ++ V) = V.foldl (refStep width wrap limit) (refS width wrap limit U) := by simp [refS]
theorem stepR_len (width : Nat) (wrap : Bool) (s : RS) (u : Unt) : (stepR width wrap s u).rows.length ≤ s.rows.length + 1 := by
 unfold stepR
 split
 ·simp
 ·split
  ·simp
  ·split
   ·simp
   ·split <;> simp
theorem rowsE_len (width : Nat) (wrap : Bool) (to_ : Int) (us : List Unt) : (rowsE width wrap to_ us).length ≤ us.length + 1 := by
 have key : ∀ (us : List Unt) (s : RS), (us.foldl (stepR width wrap) s).rows.length ≤ s.rows.length + us.length := by
  intro us
  induction us with
  | nil => intro s; simp
  | cons u us ih =>
   intro s
   have h1 := ih (stepR width wrap s u)
   have h2 := stepR_len width wrap s u
   rw [List.foldl_cons, List.length_cons]
   omega
 have := key us ⟨newFil width, false, []⟩
 unfold rowsE rowsS
 rw [List.length_append]
 simp at this ⊢
 omega
theorem refS_len (width : Nat) (wrap : Bool) (limit : Nat) (U : List Unt) : (refS width wrap limit U).1.length + (refS width wrap limit U).2.length ≤ U.length := by
 refine snoc_ind (P := fun U => (refS width wrap limit U).1.length + (refS width wrap limit U).2.length ≤ U.length) (by simp [refS]) ?_ U
 intro l u ih
 rw [refS_snoc, List.length_append, List.length_cons, List.length_nil]
 unfold refStep
 split
 ·have := rowsE_len width wrap u.pos (refS width wrap limit l).2
  rw [List.length_append]; simp; omega
 ·split
  ·rw [List.length_append]; simp; omega
  ·omega
theorem refS_plain (width : Nat) (wrap : Bool) (limit : Nat) (us : List Unt) (hg : GoodU us) : PlainU (refS width wrap limit us).2 := by
 refine snoc_ind (P := fun us => GoodU us → PlainU (refS width wrap limit us).2) ?_ ?_ us hg
 ·intro _ u hu; simp [refS] at hu
 ·intro l u ih hg
  have ih := ih (fun v hv => hg v (List.mem_append_left _ hv))
  rw [refS_snoc]
  unfold refStep
  by_cases hu : u.feed = true
  ·rw [if_pos hu]; intro v hv; simp at hv
  ·rw [if_neg hu]
   split
   ·intro v hv
    rcases List.mem_append.1 hv with h | h
    ·exact ih v h
    ·rw [List.mem_singleton] at h
     subst h
     have hu' : v.feed = false := by simpa using hu
     exact ⟨hu', hg v (List.mem_append_right _ (List.mem_singleton.2 rfl)) hu'⟩
   ·exact ih
theorem oneU_len (tab col : Int) (x : Chr) (h1 : 1 ≤ tab) (h2 : tab ≤ 64) (hc : 0 ≤ col) : (oneU tab col x).1.length ≤ 64 := by
 have hp := tabN_pos tab col h1 hc
 unfold oneU
 split
 ·simp
 ·split
  ·simp; omega
  ·split <;> simp
theorem unitsC_len (tab : Int) (h1 : 1 ≤ tab) (h2 : tab ≤ 64) (xs : List Chr) : (unitsC tab xs).1.length ≤ 64 * xs.length := by
 refine snoc_ind (P := fun xs => (unitsC tab xs).1.length ≤ 64 * xs.length) (by simp [unitsC]) ?_ xs
 intro l x ih
 have hc := (col_bound tab h1 h2 l).1
 have := oneU_len tab (unitsC tab l).2 x h1 h2 hc
 rw [unitsC_snoc, List.length_append, List.length_append, List.length_cons, List.length_nil]
 omega
/-- The To of rows, set up to a row. -/
def tosTo (to_ : Int) (rs : List Row) (i : Nat) : List Row := (tosR to_ rs).take i ++ rs.drop i
theorem tosTo_zero (to_ : Int) (rs : List Row) : tosTo to_ rs 0 = rs := by simp [tosTo]
theorem tosTo_all (to_ : Int) (rs : List Row) (i : Nat) (h : rs.length ≤ i) : tosTo to_ rs i = tosR to_ rs := by
 unfold tosTo
 rw [List.drop_of_length_le h, List.take_of_length_le (by rw [tosR_len]; exact h), List.append_nil]
theorem tosTo_len (to_ : Int) (rs : List Row) (i : Nat) (h : i ≤ rs.length) : (tosTo to_ rs i).length = rs.length := by
 unfold tosTo
 rw [List.length_append, List.length_take, List.length_drop, tosR_len]; omega
theorem tosTo_get (to_ : Int) (rs : List Row) (i j : Nat) (h : i ≤ j) (hj : j < rs.length) : (tosTo to_ rs i).getD j z39 = rs.getD j z39 := by
 have hl : ((tosR to_ rs).take i).length = i := by rw [List.length_take, tosR_len]; omega
 unfold tosTo
 rw [List.getD_eq_getElem?_getD, List.getD_eq_getElem?_getD, List.getElem?_append_right (by omega), hl, List.getElem?_drop]
 congr 2; omega
theorem tosTo_succ (to_ : Int) (rs : List Row) (i : Nat) (h : i < rs.length) : tosTo to_ rs (i + 1) = (tosTo to_ rs i).set i (toR (rs.getD i z39) (nextF to_ rs i)) := by
 have hl : ((tosR to_ rs).take i).length = i := by rw [List.length_take, tosR_len]; omega
 have hT : (tosR to_ rs)[i]? = some (toR (rs.getD i z39) (nextF to_ rs i)) := by
  rw [tosR_get to_ _ rs rfl, List.getElem?_eq_getElem h]
  simp [h]
 unfold tosTo
 rw [List.set_append_right _ _ (by omega), hl, Nat.sub_self, List.drop_eq_getElem_cons h, List.set_cons_zero]
 have hlt : i < (tosR to_ rs).length := by rw [tosR_len]; exact h
 rw [List.take_succ_eq_append_getElem hlt, List.append_assoc]
 have : (tosR to_ rs)[i] = toR (rs.getD i z39) (nextF to_ rs i) := by
  rw [List.getElem?_eq_getElem hlt] at hT
  exact Option.some.inj hT
 rw [this]
 rfl
end Go.Proofs.YtppjgofjjcdcdaaDoor

/- copyistref35.Rows: what its loops hold. -/
namespace Go.Proofs.YtppjgofjjcdcdaaDoor
open PLayoutRows
open Go.RowKit Go.Proofs.YtppjgofjjcdcdaaDoorW.PrintWords Go.Proofs.YtppjgofjjcdcdaaDoorW.PrintMore
/-- The rows so far and the line at hand, each apart from the other's own row. -/
structure RfS (w wr : World) (uo vn : Value) (rs : List Row) (us : List Unt) : Prop where
 o : Kd.N k39 39 wr w.heap.size (fun k => w.heap.size ≤ k ∧ some k ≠ vn.ownBlock) uo rs
 n : Kd.N k72 72 wr w.heap.size (fun k => some k ≠ uo.ownBlock) vn (us.map toS)
 b : Below w.heap.size w wr
theorem rf_start (w wr : World) (hb : Below w.heap.size w wr) : RfS w wr (.slice none 0 0) (.slice none 0 0) [] [] := ⟨Kd.N_nil _ _ _ _ _, Kd.N_nil _ _ _ _ _, hb⟩
theorem rf_below {w wr w1 : World} {uo vn : Value} {rs : List Row} {us : List Unt} (h : RfS w wr uo vn rs us) (hb : Below wr.heap.size wr w1) : RfS w w1 uo vn rs us := ⟨Kd.N_below h.o hb, Kd.N_below h.n hb, below_step h.b hb⟩
theorem rf_now {w wr w1 : World} {uo vn v1 : Value} {rs : List Row} {us vs : List Unt} (h : RfS w wr uo vn rs us) (hn : Kd.N k72 72 w1 w.heap.size (fun k => some k ≠ uo.ownBlock) v1 (vs.map toS)) (hb : Below w.heap.size w w1) (hg : wr.grownBy w1 vn.ownBlock)
  (hat : v1.ownBlock = vn.ownBlock ∨ ∃ b, v1.ownBlock = some b ∧ wr.heap.size ≤ b) : RfS w w1 uo v1 rs vs := ⟨Kd.N_after h.o hg hat, hn, hb⟩
theorem rf_feed {w w1 : World} {v1 : Value} {rs : List Row} (ho : Kd.N k39 39 w1 w.heap.size (fun k => w.heap.size ≤ k) v1 rs) (hb : Below w.heap.size w w1) : RfS w w1 v1 (.slice none 0 0) rs [] :=
 ⟨Kd.N_mono ho (fun k hk => ⟨hk, by simp [Value.ownBlock]⟩), Kd.N_nil _ _ _ _ _, hb⟩
/-- Beside them blocks of a world that stay as they are. -/
structure RfK (w W0 wr : World) (K : Nat → Prop) (uo vn : Value) (rs : List Row) (us : List Unt) : Prop where
 s : RfS w wr uo vn rs us
 ao : ∀ k, uo.ownBlock = some k → ¬ K k
 an : ∀ k, vn.ownBlock = some k → ¬ K k
 same : ∀ k, K k → wr.heap[k]? = W0.heap[k]?
 lt : ∀ k, K k → k < wr.heap.size
/-- All blocks but the two rows. -/
def Rest (wr : World) (uo vn : Value) (k : Nat) : Prop := k < wr.heap.size ∧ some k ≠ uo.ownBlock ∧ some k ≠ vn.ownBlock
theorem rk_start {w wr : World} {uo vn : Value} {rs : List Row} {us : List Unt} (h : RfS w wr uo vn rs us) : RfK w wr wr (Rest wr uo vn) uo vn rs us :=
 ⟨h, fun k hk hk' => hk'.2.1 hk.symm, fun k hk hk' => hk'.2.2 hk.symm, fun _ _ => rfl, fun _ hk => hk.1⟩
theorem rk_mono {w W0 W1 wr : World} {K1 K2 : Nat → Prop} {uo vn : Value} {rs : List Row} {us : List Unt} (h : RfK w W1 wr K2 uo vn rs us) (hs : ∀ k, K1 k → K2 k) (he : ∀ k, K1 k → W1.heap[k]? = W0.heap[k]?) : RfK w W0 wr K1 uo vn rs us :=
 ⟨h.s, fun k hk hk' => h.ao k hk (hs k hk'), fun k hk hk' => h.an k hk (hs k hk'), fun k hk => (h.same k (hs k hk)).trans (he k hk), fun k hk => h.lt k (hs k hk)⟩
theorem rk_below {w W0 wr w1 : World} {K : Nat → Prop} {uo vn : Value} {rs : List Row} {us : List Unt} (h : RfK w W0 wr K uo vn rs us) (hb : Below wr.heap.size wr w1) : RfK w W0 w1 K uo vn rs us :=
 ⟨rf_below h.s hb, h.ao, h.an, fun k hk => (hb.block k (h.lt k hk)).trans (h.same k hk), fun k hk => Nat.lt_of_lt_of_le (h.lt k hk) hb.size⟩
/-- K lies in the rest. -/
theorem rk_rest {w W0 wr : World} {K : Nat → Prop} {uo vn : Value} {rs : List Row} {us : List Unt} (h : RfK w W0 wr K uo vn rs us) (k : Nat) (hk : K k) : Rest wr uo vn k := ⟨h.lt k hk, fun he => h.ao k he.symm hk, fun he => h.an k he.symm hk⟩
theorem rk_now {w W0 wr w1 : World} {K : Nat → Prop} {uo vn v1 : Value} {rs : List Row} {us vs : List Unt} (h : RfK w W0 wr K uo vn rs us) (hn : Kd.N k72 72 w1 w.heap.size (fun k => some k ≠ uo.ownBlock) v1 (vs.map toS)) (hb : Below w.heap.size w w1) (hg : wr.grownBy w1 vn.ownBlock)
  (hat : v1.ownBlock = vn.ownBlock ∨ ∃ b, v1.ownBlock = some b ∧ wr.heap.size ≤ b) : RfK w W0 w1 K uo v1 rs vs := by
 refine ⟨rf_now h.s hn hb hg hat, h.ao, fun k hk hk' => ?_, fun k hk => (hg.block k (h.lt k hk) (fun he => h.an k he.symm hk)).trans (h.same k hk), fun k hk => Nat.lt_of_lt_of_le (h.lt k hk) hg.size⟩
 rcases hat with hat | ⟨b, hb', hle⟩
 ·exact h.an k (hat ▸ hk) hk'
 ·rw [hb'] at hk
  cases hk
  have := h.lt _ hk'
  omega
theorem rk_feed {w W0 wr w1 : World} {K : Nat → Prop} {uo vn v1 : Value} {rs rs1 : List Row} {us : List Unt} (h : RfK w W0 wr K uo vn rs us) (ho : Kd.N k39 39 w1 w.heap.size (fun k => w.heap.size ≤ k) v1 rs1) (hb : Below w.heap.size w w1) (hg : wr.grownBy w1 uo.ownBlock)
  (hat : v1.ownBlock = uo.ownBlock ∨ ∃ b, v1.ownBlock = some b ∧ wr.heap.size ≤ b) : RfK w W0 w1 K v1 (.slice none 0 0) rs1 [] := by
 refine ⟨rf_feed ho hb, fun k hk hk' => ?_, fun k hk => by simp [Value.ownBlock] at hk, fun k hk => (hg.block k (h.lt k hk) (fun he => h.ao k he.symm hk)).trans (h.same k hk), fun k hk => Nat.lt_of_lt_of_le (h.lt k hk) hg.size⟩
 rcases hat with hat | ⟨b, hb', hle⟩
 ·exact h.ao k (hat ▸ hk) hk'
 ·rw [hb'] at hk
  cases hk
  have := h.lt _ hk'
  omega
/-- What a call has made lies in the rest. -/
theorem rk_new {w wr w1 : World} {uo vn : Value} {rs : List Row} {us : List Unt} (h : RfS w wr uo vn rs us) (k : Nat) (h1 : wr.heap.size ≤ k) (h2 : k < w1.heap.size) : Rest w1 uo vn k :=
 ⟨h2, fun he => by have := Kd.N_lt h.o k he.symm; omega, fun he => by have := Kd.N_lt h.n k he.symm; omega⟩
theorem rk_N {w W0 wr : World} {K : Nat → Prop} {uo vn : Value} {rs : List Row} {us : List Unt} (h : RfK w W0 wr K uo vn rs us) {α : Type} {d : Kd α} {e base : Nat} {v : Value} {xs : List α} (hn : Kd.N d e W0 base K v xs) : Kd.N d e wr base K v xs :=
 Kd.N_step hn (fun k hk _ => h.same k hk)
/-- A row's To. -/
theorem n_to {wr : World} {ok : Nat → Prop} {base g n cap : Nat} {rs : List Row} (h : Kd.N k39 39 wr base ok (.slice (some ⟨g, 0, none⟩) n cap) rs) (i : Nat) (hi : i < n) (t : Int) :
  Kd.N k39 39 (wr.setCell ⟨g, i * 5 + 3, none⟩ (.int .i64 t)) base ok (.slice (some ⟨g, 0, none⟩) n cap) (rs.set i (toR (rs.getD i z39) t)) := by
 obtain ⟨c, hcl, hF, hcc, hfr⟩ := Kd.N_elem h z39 (i : Int) (by omega) (by omega)
 rw [Int.toNat_natCast] at hF
 obtain ⟨A0, c0, A1, c1, rfl, l0, g0, l1, g1⟩ := k39_openF hF
 have hx := (Kd.N_seg h (i : Int) (by omega) (by omega) (seg := [.int .i64 t]) (j := 3) hcl hcc (show 4 ≤ 5 by decide) (x' := toR (rs.getD i z39) t) (okp := fun k => ok k ∧ k ≠ g) (k39_mkF _ _ (toR (rs.getD i z39) t) l0 g0 l1 g1) (fun _ hk => hk)).1
 rw [Int.toNat_natCast] at hx
 exact hx
/-- laid's rows: where they lie. -/
theorem laid_F {w W w2 : World} {v : Value} {rs : List Row} (hr : Kd.R k39 39 w2 W.heap.size (fun _ => True) v rs) : ∃ A c, v = .slice A rs.length c ∧ rs.length ≤ c ∧ Kd.F k39 w2 (fun k => W.heap.size ≤ k) A rs.length rs := by
 obtain ⟨A, c, rfl, hc, _⟩ := Kd.R_reads hr
 exact ⟨A, c, rfl, hc, Kd.N_F (Kd.R_N (Kd.R_mono (Kd.R_bound hr) (fun k hk => hk.2.1)))⟩
def RowsRet (w : World) (rs : List Row) (err : Int) (e : Ending) (w' : World) : Prop := ∃ v, e = .returned (.tuple #[v, .int .i64 err]) ∧ Kd.N k39 39 w' w.heap.size (fun k => w.heap.size ≤ k) v rs ∧ Below w.heap.size w w'
/-- The characters gone through, and what they have come to. -/
structure RunS (wd : Nat) (wrap : Bool) (lim : Nat) (tab : Int) (l : List Part) (xs : List Chr) (rs : List Row) (us : List Unt) (cl : Int) : Prop where
 pre : xs <+: charsP l
 st : refS wd wrap lim (unitsC tab xs).1 = (rs, us)
 col : (unitsC tab xs).2 = cl
theorem run_start (wd : Nat) (wrap : Bool) (lim : Nat) (tab : Int) (l : List Part) : RunS wd wrap lim tab l [] [] [] 0 := ⟨List.nil_prefix, rfl, rfl⟩
theorem run_bounds {wd : Nat} {wrap : Bool} {lim : Nat} {tab : Int} {l : List Part} {xs : List Chr} {rs : List Row} {us : List Unt} {cl : Int} (h : RunS wd wrap lim tab l xs rs us cl) (h1 : 1 ≤ tab) (h2 : tab ≤ 64) (hl : (charsP l).length ≤ 6000) :
  rs.length + us.length ≤ 384000 ∧ 0 ≤ cl ∧ cl ≤ 384000 ∧ PlainU us ∧ GoodU (unitsC tab xs).1 := by
 have hx : xs.length ≤ 6000 := Nat.le_trans h.pre.length_le hl
 have hu := unitsC_len tab h1 h2 xs
 have hc := col_bound tab h1 h2 xs
 have hr := refS_len wd wrap lim (unitsC tab xs).1
 have hp := refS_plain wd wrap lim (unitsC tab xs).1 (unitsC_good tab xs)
 rw [h.st] at hr hp
 rw [h.col] at hc
 exact ⟨by have h3 : rs.length + us.length ≤ (unitsC tab xs).1.length := hr; omega, hc.1, by omega, hp, unitsC_good tab xs⟩
theorem run_next {wd : Nat} {wrap : Bool} {lim : Nat} {tab : Int} {l : List Part} {xs : List Chr} {rs rs' : List Row} {us us' : List Unt} {cl cl' : Int} (h : RunS wd wrap lim tab l xs rs us cl) (h1 : 1 ≤ tab) (h2 : tab ≤ 64) (x : Chr) (hp : xs ++ [x] <+: charsP l)
  (hs : (oneU tab cl x).1.foldl (refStep wd wrap lim) (rs, us) = (rs', us')) (hc : (oneU tab cl x).1.foldl refColS cl = cl') : RunS wd wrap lim tab l (xs ++ [x]) rs' us' cl' := by
 have h0 := (col_bound tab h1 h2 xs).1
 rw [h.col] at h0
 refine ⟨hp, ?_, ?_⟩
 ·rw [unitsC_snoc, refS_app, h.st, h.col]; exact hs
 ·rw [unitsC_snoc, h.col]; rw [one_col tab cl x h1 h0] at hc; exact hc
theorem charsFrom_get (kind : Int) (look : Look) : ∀ (cs : List Int) (pos : Int) (k : Nat), k < cs.length → (charsFrom kind look pos cs)[k]? = some ⟨cs.getD k 0, if kind = 0 then pos + k else pos, look⟩
 | [], _, k, h => by simp at h
 | c :: cs, pos, 0, _ => by simp [charsFrom]
 | c :: cs, pos, k + 1, h => by
  have ih := charsFrom_get kind look cs (if kind = 0 then pos + 1 else pos) k (by simpa using h)
  simp only [charsFrom, List.getElem?_cons_succ, List.getD_cons_succ]
  rw [ih]
  by_cases h0 : kind = 0
  ·simp only [if_pos h0]
   have : pos + 1 + (k : Int) = pos + ((k + 1 : Nat) : Int) := by omega
   rw [this]
  ·simp only [if_neg h0]
theorem partChars_get (p : Part) (k : Nat) (h : k < (runesP p.f3).length) : (partChars p)[k]? = some ⟨(runesP p.f3).getD k 0, if p.f0 = 0 then p.f1 + k else p.f1, p.f4⟩ := charsFrom_get _ _ _ _ _ h
theorem partChars_len (p : Part) : (partChars p).length = (runesP p.f3).length := charsFrom_len _ _ _ _
theorem chars_at {l : List Part} {i k : Nat} {p : Part} {x : Chr} (hi : i < l.length) (hp : l.getD i z55 = p) (hx : (partChars p)[k]? = some x) :
  (charsP (l.take i) ++ (partChars p).take k) ++ [x] <+: charsP l ∧ (partChars p).take (k + 1) = (partChars p).take k ++ [x] := by
 obtain ⟨hk, hx'⟩ := List.getElem?_eq_some_iff.1 hx
 have e : (partChars p).take (k + 1) = (partChars p).take k ++ [x] := by rw [List.take_succ_eq_append_getElem hk, hx']
 refine ⟨?_, e⟩
 rw [List.append_assoc, ← e]
 have h1 := charsP_succ l i hi
 rw [hp] at h1
 refine List.IsPrefix.trans ?_ (charsP_pre l (i + 1))
 rw [h1]
 exact (List.prefix_append_right_inj _).2 (List.take_prefix _ _)
theorem check_valid (from_ to_ : Int) : ∀ (l : List Part) (a : Int), checkL from_ to_ l a = 0 → ∀ p ∈ l, validP p.f3 = true
 | [], _, _, p, hp => by simp at hp
 | q :: l, a, h, p, hp => by
  simp only [checkL] at h
  have h0 : checkP1 q from_ to_ a = 0 := by
   by_cases h0 : checkP1 q from_ to_ a = 0
   ·exact h0
   ·rw [if_neg h0] at h; exact absurd h h0
  rw [if_pos h0] at h
  rcases List.mem_cons.1 hp with rfl | hp
  ·unfold checkP1 at h0
   split at h0
   ·omega
   ·rename_i h1
    cases hv : validP p.f3
    ·exact absurd (.inr (.inr hv)) h1
    ·rfl
  ·exact check_valid from_ to_ l _ h p hp
theorem checkP_valid {l : List Part} {from_ to_ : Int} (h : checkP l from_ to_ = 0) : ∀ p ∈ l, validP p.f3 = true := by
 unfold checkP at h
 split at h
 ·omega
 ·exact check_valid _ _ _ _ h
theorem fold_facts {wd : Nat} {wrap : Bool} {lim : Nat} : ∀ (U : List Unt) (rs rs' : List Row) (us us' : List Unt) (cl cl' : Int), GoodU U → PlainU us → 0 ≤ cl → U.foldl (refStep wd wrap lim) (rs, us) = (rs', us') → U.foldl refColS cl = cl' →
  rs'.length + us'.length ≤ rs.length + us.length + U.length ∧ PlainU us' ∧ 0 ≤ cl' ∧ cl' ≤ cl + 2 * U.length
 | [], rs, rs', us, us', cl, cl', _, hp, h0, h1, h2 => by
  cases h1
  cases h2
  exact ⟨by simp, hp, h0, by simp⟩
 | u :: U, rs, rs', us, us', cl, cl', hg, hp, h0, h1, h2 => by
  rw [List.foldl_cons] at h1 h2
  have hg' : GoodU U := fun v hv => hg v (List.mem_cons_of_mem _ hv)
  have hu := hg u (List.mem_cons_self ..)
  by_cases hf : u.feed = true
  ·have e1 : refStep wd wrap lim (rs, us) u = (rs ++ rowsE wd wrap u.pos us, []) := by unfold refStep; rw [if_pos hf]
   have e2 : refColS cl u = 0 := by unfold refColS; rw [if_pos hf]
   rw [e1] at h1
   rw [e2] at h2
   have hl := rowsE_len wd wrap u.pos us
   obtain ⟨a, b, c, d⟩ := fold_facts U _ rs' _ us' 0 cl' hg' (fun v hv => by simp at hv) (Int.le_refl _) h1 h2
   rw [List.length_append] at a
   simp at a d ⊢
   exact ⟨by omega, b, c, by omega⟩
  ·have hf' : u.feed = false := by simpa using hf
   have e2 : refColS cl u = cl + u.cells.length := by unfold refColS; rw [if_neg hf]
   rw [e2] at h2
   obtain ⟨hu1, hu2⟩ := hu hf'
   by_cases hl : us.length < lim
   ·have e1 : refStep wd wrap lim (rs, us) u = (rs, us ++ [u]) := by unfold refStep; rw [if_neg hf, if_pos hl]
    rw [e1] at h1
    obtain ⟨a, b, c, d⟩ := fold_facts U _ rs' _ us' _ cl' hg' (fun v hv => by
     rcases List.mem_append.1 hv with h | h
     ·exact hp v h
     ·rw [List.mem_singleton] at h; subst h; exact ⟨hf', hu1, hu2⟩) (by omega) h1 h2
    rw [List.length_append] at a
    simp at a ⊢
    exact ⟨by omega, b, c, by omega⟩
   ·have e1 : refStep wd wrap lim (rs, us) u = (rs, us) := by unfold refStep; rw [if_neg hf, if_neg hl]
    rw [e1] at h1
    obtain ⟨a, b, c, d⟩ := fold_facts U _ rs' _ us' _ cl' hg' hp (by omega) h1 h2
    simp at a ⊢
    exact ⟨by omega, b, c, by omega⟩
theorem at_NU {wr : World} {K : Nat → Prop} {base n c : Nat} {A : Option Addr} {uu : List Unt} (h : Kd.N k72 72 wr base K (.slice A n c) (uu.map toS)) (q : Nat) (hq : q < n) :
  ∃ ad A0 c0, A = some ad ∧ wr.cell? (ad.add (q * 3)) = some (.slice A0 (uu.getD q ⟨[], 0, false⟩).cells.length c0) ∧ wr.cell? ⟨(ad.add (q * 3)).block, (ad.add (q * 3)).off + 1, none⟩ = some (.int .i64 (uu.getD q ⟨[], 0, false⟩).pos) ∧
   wr.cell? ⟨(ad.add (q * 3)).block, (ad.add (q * 3)).off + 2, none⟩ = some (.bool (uu.getD q ⟨[], 0, false⟩).feed) ∧
   Kd.FK k72 wr K (toS (uu.getD q ⟨[], 0, false⟩)) [.slice A0 (uu.getD q ⟨[], 0, false⟩).cells.length c0, .int .i64 (uu.getD q ⟨[], 0, false⟩).pos, .bool (uu.getD q ⟨[], 0, false⟩).feed] := by
 obtain ⟨hn, _, hC⟩ := Kd.N_reads' h
 obtain ⟨ad, rfl, _⟩ := hC.2.2 (by omega)
 obtain ⟨cc, hcl, hF, hcc⟩ := Kd.N_get h z72 (q : Int) (by omega) (by omega)
 rw [Int.toNat_natCast] at hF hcc
 have hx : (uu.map toS).getD q z72 = toS (uu.getD q ⟨[], 0, false⟩) := by
  have hl : q < uu.length := by rw [List.length_map] at hn; omega
  simp [hl]
 rw [hx] at hF
 obtain ⟨A0, c0, rfl, l0, g0⟩ := k72_openF hF
 exact ⟨ad, A0, c0, rfl, hcc 0 _ rfl, by rw [← add_field _ _ 1 (by omega)]; exact hcc 1 _ rfl, by rw [← add_field _ _ 2 (by omega)]; exact hcc 2 _ rfl, Kd.FK_mono hF (fun k hk => hk.1)⟩
theorem unitsC_ext (tab : Int) {xs ys : List Chr} (h : xs <+: ys) : ∃ V, (unitsC tab ys).1 = (unitsC tab xs).1 ++ V := by
 obtain ⟨zs, rfl⟩ := h
 refine snoc_ind (P := fun zs => ∃ V, (unitsC tab (xs ++ zs)).1 = (unitsC tab xs).1 ++ V) ⟨[], by simp⟩ ?_ zs
 rintro l x ⟨V, hV⟩
 rw [← List.append_assoc, unitsC_snoc]
 exact ⟨V ++ (oneU tab (unitsC tab (xs ++ l)).2 x).1, by simp only; rw [hV, List.append_assoc]⟩
theorem run_final {wd : Nat} {wrap : Bool} {lim : Nat} {tab : Int} {l : List Part} {xs : List Chr} {rs : List Row} {us : List Unt} {cl : Int} (h : RunS wd wrap lim tab l xs rs us cl) (hw : 4 ≤ wd) {mo : Nat} (hE : Enough wd wrap mo lim) (to_ : Int) (hx : rs.length ≤ mo → xs = charsP l) :
  (tosR to_ (refF wd wrap to_ mo (rs, us))).take mo = collectR to_ mo (rowsE wd wrap to_ (unitsC tab (charsP l)).1) := by
 by_cases hm : rs.length ≤ mo
 ·have := ref_rows hw to_ hE (unitsC tab xs).1 [] (unitsC_good tab xs) (.inl rfl)
  rw [h.st, List.append_nil, hx hm] at this
  exact this
 ·obtain ⟨V, hV⟩ := unitsC_ext tab h.pre
  have := ref_rows hw to_ hE (unitsC tab xs).1 V (unitsC_good tab xs) (.inr (by rw [h.st]; exact Nat.lt_of_not_le hm))
  rw [h.st, ← hV] at this
  exact this
theorem nextF_mid (to_ : Int) (F : List Row) (j : Nat) (h : j + 1 < F.length) : nextF to_ F j = (F.getD (j + 1) z39).f2 := by
 unfold nextF
 rw [List.getElem?_eq_getElem h]
 simp [h]
theorem nextF_last (to_ : Int) (F : List Row) (j : Nat) (h : ¬ j + 1 < F.length) : nextF to_ F j = to_ := by
 unfold nextF
 rw [List.getElem?_eq_none (by omega)]
theorem tos_twice (to_ : Int) (F : List Row) (j : Nat) (h : j < F.length) (t : Int) (ht : t = nextF to_ F j) :
  ((tosTo to_ F j).set j (toR ((tosTo to_ F j).getD j z39) to_)).set j (toR (((tosTo to_ F j).set j (toR ((tosTo to_ F j).getD j z39) to_)).getD j z39) t) = tosTo to_ F (j + 1) := by
 have hl : j < (tosTo to_ F j).length := by rw [tosTo_len to_ F j (by omega)]; exact h
 rw [tosTo_succ to_ F j h, List.set_set, tosTo_get to_ F j j (Nat.le_refl _) h, ht]
 congr 1
 have : ((tosTo to_ F j).set j (toR (F.getD j z39) to_)).getD j z39 = toR (F.getD j z39) to_ := by simp [hl]
 rw [this]
 rfl
theorem tos_once (to_ : Int) (F : List Row) (j : Nat) (h : j < F.length) (ht : to_ = nextF to_ F j) :
  (tosTo to_ F j).set j (toR ((tosTo to_ F j).getD j z39) to_) = tosTo to_ F (j + 1) := by
 rw [tosTo_succ to_ F j h, tosTo_get to_ F j j (Nat.le_refl _) h, ← ht]
theorem n_tocell {wr : World} {ok : Nat → Prop} {base g n cap : Nat} {rs : List Row} (h : Kd.N k39 39 wr base ok (.slice (some ⟨g, 0, none⟩) n cap) rs) (i : Nat) (hi : i < n) :
  (∃ v, wr.cell? ⟨g, i * 5 + 3, none⟩ = some v) ∧ wr.frozen? ⟨g, i * 5 + 3, none⟩ = false ∧ wr.cell? ⟨g, i * 5 + 2, none⟩ = some (.int .i64 (rs.getD i z39).f2) := by
 obtain ⟨c, hcl, hF, hcc, hfr⟩ := Kd.N_elem h z39 (i : Int) (by omega) (by omega)
 rw [Int.toNat_natCast] at hF hcc hfr
 obtain ⟨A0, c0, A1, c1, rfl, l0, g0, l1, g1⟩ := k39_openF hF
 exact ⟨⟨_, hcc 3 _ rfl⟩, hfr 3, hcc 2 _ rfl⟩
end Go.Proofs.YtppjgofjjcdcdaaDoor
