/- layout.Blank and layout.fill. -/
import Derived.Test.YtppjgofjjcdcdaaDoorJA
import Derived.Test.YtppjgofjjcdcdaaDoorPLayoutRowsx0
import Derived.TacticsInMore
import Derived.OwnWalkIn
import Derived.LoopIn
import Derived.Lib.OthersKept
import Derived.Laws.RangeAny
import Derived.Laws.CopyOwn
import Derived.Deep.RegionLaw
import Derived.Test.YtppjgofjjcdcdaaDoorShelf
set_option linter.unusedVariables false
set_option linter.unusedSimpArgs false
/- layout's filler: its state as a Lean structure; put and mark. -/
namespace Go.Proofs.YtppjgofjjcdcdaaDoor
open PLayoutRows
open Go.RowKit Go.Proofs.YtppjgofjjcdcdaaDoorW.PrintWords
abbrev Cell := S78
def cellV (c : Cell) : List Value := [.int .i64 c.f0, .int .i64 c.f1.f0, .int .i64 c.f1.f1, .bool c.f1.f2, .bool c.f1.f3, .bool c.f1.f4]
def flat (cs : List Cell) : List Value := cs.flatMap cellV
def cellB (cs : List Cell) : Obj := .cells (flat cs).toArray 78 (0, 0)
theorem cellV_len (c : Cell) : (cellV c).length = 6 := rfl
theorem flat_len (cs : List Cell) : (flat cs).length = cs.length * 6 := by
  induction cs with
  | nil => rfl
  | cons c cs ih => simp only [flat, List.flatMap_cons, List.length_append, List.length_cons] at *; rw [ih, cellV_len]; omega
def six (l : List Value) (n : Nat) (c : Cell) : List Value :=
  (((((l.set n (.int .i64 c.f0)).set (n + 1) (.int .i64 c.f1.f0)).set (n + 2) (.int .i64 c.f1.f1)).set (n + 3) (.bool c.f1.f2)).set (n + 4) (.bool c.f1.f3)).set (n + 5) (.bool c.f1.f4)
theorem six_flat (c : Cell) : ∀ (cs : List Cell) (n : Nat), n < cs.length → six (flat cs) (n * 6) c = flat (cs.set n c)
  | [], n, h => by simp at h
  | d :: cs, 0, _ => by simp [six, flat, cellV]
  | d :: cs, n + 1, h => by
    have ih := six_flat c cs n (by simpa using h)
    simp only [List.set_cons_succ, flat, List.flatMap_cons] at *
    rw [← ih]
    have e : ∀ (l : List Value) (k j : Nat) (v : Value), k = 6 + j → (cellV d ++ l).set k v = cellV d ++ l.set j v := by
      rintro l _ j v rfl
      rw [List.set_append_right _ _ (by rw [cellV_len]; omega), cellV_len, Nat.add_sub_cancel_left]
    unfold six
    rw [e _ _ (n * 6) _ (by omega), e _ _ (n * 6 + 1) _ (by omega), e _ _ (n * 6 + 2) _ (by omega), e _ _ (n * 6 + 3) _ (by omega), e _ _ (n * 6 + 4) _ (by omega), e _ _ (n * 6 + 5) _ (by omega)]
theorem six_block (w : World) (g n : Nat) (c : Cell) (cs : List Cell) (hg : w.heap[g]? = some (cellB cs)) (hn : n < cs.length) :
    ((((((w.setCell ⟨g, n * 6, none⟩ (.int .i64 c.f0)).setCell ⟨g, n * 6 + 1, none⟩ (.int .i64 c.f1.f0)).setCell ⟨g, n * 6 + 2, none⟩ (.int .i64 c.f1.f1)).setCell ⟨g, n * 6 + 3, none⟩ (.bool c.f1.f2)).setCell ⟨g, n * 6 + 4, none⟩ (.bool c.f1.f3)).setCell ⟨g, n * 6 + 5, none⟩ (.bool c.f1.f4)).heap[g]? = some (cellB (cs.set n c)) := by
  rw [hs_same (hs_same (hs_same (hs_same (hs_same (hs_same hg)))))]
  unfold cellB
  rw [← six_flat c cs n hn]
  simp [six]
theorem one_flat (r : Int) : ∀ (cs : List Cell) (n : Nat), n < cs.length → (flat cs).set (n * 6) (.int .i64 r) = flat (cs.set n ⟨r, (cs.getD n z78).f1⟩)
  | [], n, h => by simp at h
  | d :: cs, 0, _ => by simp [flat, cellV]
  | d :: cs, n + 1, h => by
    have ih := one_flat r cs n (by simpa using h)
    simp only [List.set_cons_succ, flat, List.flatMap_cons, List.getD_cons_succ] at *
    rw [← ih, List.set_append_right _ _ (by rw [cellV_len]; omega), cellV_len, show (n + 1) * 6 - 6 = n * 6 by omega]
structure Fil where
  cells : List Cell
  pos : List Int
  fr : Int
  to_ : Int
  cont : Bool
  n : Nat
def FilAt (W : World) (p g q : Nat) (x : Fil) : Prop :=
  W.heap[p]? = some (filB (.slice (some ⟨g, 0, none⟩) x.cells.length x.cells.length) q x.pos.length x.pos.length x.fr x.to_ x.cont x.n) ∧ W.heap[g]? = some (cellB x.cells) ∧ W.heap[q]? = some (posB x.pos)
def Fil.at0 (x : Fil) (pos : Int) : Fil := if x.n = 0 then { x with fr := pos } else x
def Fil.add1 (x : Fil) (c : Cell) (pos : Int) : Fil := { x with cells := x.cells.set x.n c, pos := x.pos.set x.n pos, n := x.n + 1 }
def Fil.puts (x : Fil) (cs : List Cell) (pos : Int) : Fil := cs.foldl (fun x c => x.add1 c pos) x
def Fil.put (x : Fil) (cs : List Cell) (pos : Int) : Fil := (x.at0 pos).puts cs pos
def Fil.end_ (x : Fil) (pos : Int) : Fil := { x.at0 pos with pos := x.pos.set x.n pos }
def Fil.mark (x : Fil) (c : Int) : Fil := { x with cells := x.cells.set (x.cells.length - 1) ⟨c, (x.cells.getD (x.cells.length - 1) z78).f1⟩ }
theorem filEnd_any (p g q : Nat) (x : Fil) (pos : Int) (w : World) (h : FilAt w p g q x) (hn : x.n < x.pos.length) (hl : x.pos.length ≤ 1000000) (hpq : p ≠ q) (hgp : g ≠ p) (hgq : g ≠ q) :
    Calls Tryd.prog 53 #[.pointer (some ⟨p, 0, none⟩), .int .i64 pos] w fun e w' => e = .returned (.tuple #[]) ∧
      FilAt w' p g q (x.end_ pos) ∧ Fr (fun b => b = p ∨ b = q) w w' := by
  refine (end_any p q x.n x.pos.length _ x.pos x.fr x.to_ pos x.cont w h.1 h.2.2 hn hl hpq).mono ?_
  rintro e w' ⟨rfl, h1, h2, h3⟩
  have e1 : (x.at0 pos).cells = x.cells := by unfold Fil.at0; split <;> rfl
  have e2 : (x.at0 pos).fr = if x.n = 0 then pos else x.fr := by unfold Fil.at0; split <;> rfl
  have e3 : (x.at0 pos).to_ = x.to_ := by unfold Fil.at0; split <;> rfl
  have e4 : (x.at0 pos).cont = x.cont := by unfold Fil.at0; split <;> rfl
  have e5 : (x.at0 pos).n = x.n := by unfold Fil.at0; split <;> rfl
  refine ⟨rfl, ⟨?_, ?_, ?_⟩, h3⟩
  · show w'.heap[p]? = some (filB (.slice (some ⟨g, 0, none⟩) (x.at0 pos).cells.length (x.at0 pos).cells.length) q (x.pos.set x.n pos).length (x.pos.set x.n pos).length (x.at0 pos).fr (x.at0 pos).to_ (x.at0 pos).cont (x.at0 pos).n)
    rw [e1, e2, e3, e4, e5, List.length_set]
    exact h1
  · show w'.heap[g]? = some (cellB (x.at0 pos).cells)
    rw [e1]
    exact h3.at h.2.1 (by rintro (h | h); exact hgp h; exact hgq h)
  · exact h2
set_option maxHeartbeats 400000 in
theorem mark_any (p g q : Nat) (x : Fil) (c : Int) (w : World) (h : FilAt w p g q x) (hl0 : 0 < x.cells.length) (hl : x.cells.length ≤ 1000000) (hgp : g ≠ p) (hgq : g ≠ q) :
    Calls Tryd.prog 55 #[.pointer (some ⟨p, 0, none⟩), .int .i64 c] w fun e w' => e = .returned (.tuple #[]) ∧
      FilAt w' p g q (x.mark c) ∧ Fr (fun b => b = g) w w' := by
  obtain ⟨m, hm⟩ : ∃ m, x.cells.length = m + 1 := ⟨x.cells.length - 1, by omega⟩
  have hp := h.1
  rw [hm] at hp
  have c0 : w.cell? ⟨p, 0, none⟩ = some (.slice (some ⟨g, 0, none⟩) (m + 1) (m + 1)) := cell_row hp rfl
  have hf : w.frozen? ⟨g, m * 6, none⟩ = false := free_row h.2.1
  have hc : ∃ v, w.cell? ⟨g, m * 6, none⟩ = some v := by
    have : m * 6 < (flat x.cells).length := by rw [flat_len]; omega
    exact ⟨_, cell_row h.2.1 (by simp [this]; rfl)⟩
  obtain ⟨v, hv⟩ := hc
  have H := Lib.hid h
  have HM := Lib.hid hm
  clear h hp hm
  have hm' : m ≤ 1000000 := by have := HM.out; omega
  go_enter Tryd.func55, Tryd.ntmps55
  go_wp2
  go_region
  go_end0
  refine ⟨rfl, ⟨?_, ?_, ?_⟩, Fr.drew ((Fr.refl _ _).setCell _ _ (fun _ => rfl))⟩
  · refine hd_drew (hs_other ?_ (Ne.symm hgp))
    rw [H.out.1]; simp [Fil.mark]
  · refine hd_drew ?_
    rw [hs_same H.out.2.1]
    have e : x.cells.length - 1 = m := by have := HM.out; omega
    unfold Fil.mark cellB
    rw [e, ← one_flat c x.cells m (by have := HM.out; omega)]
    simp
  · exact hd_drew (hs_other H.out.2.2 (Ne.symm hgq))
def boxU (v : Value) (pos : Int) (feed : Bool) : Obj := .cells #[v, .int .i64 pos, .bool feed] 96 (0, 0)
set_option maxHeartbeats 400000 in
theorem put_no (p g q : Nat) (x : Fil) (A : Option Addr) (k c : Nat) (pos : Int) (feed : Bool) (w : World) (h : FilAt w p g q x) (hl0 : 0 < x.cells.length) (hl : x.cells.length ≤ 1000000) (hk : k ≤ 1000000) (hxn : x.n ≤ 1000000)
    (hno : x.cells.length - 1 < x.n + k) :
    Calls Tryd.prog 54 #[.pointer (some ⟨p, 0, none⟩), .agg #[.slice A k c, .int .i64 pos, .bool feed]] w fun e w' => e = .returned (.bool false) ∧ Fr Non w w' := by
  obtain ⟨m, hm⟩ : ∃ m, x.cells.length = m + 1 := ⟨x.cells.length - 1, by omega⟩
  have hp := h.1
  rw [hm] at hp hno hl
  have c0 : w.cell? ⟨p, 0, none⟩ = some (.slice (some ⟨g, 0, none⟩) (m + 1) (m + 1)) := cell_row hp rfl
  have c5 : w.cell? ⟨p, 5, none⟩ = some (.int .i64 x.n) := cell_row hp rfl
  have hpw : p < w.heap.size := lt_of_block hp
  obtain ⟨n, hn⟩ : ∃ n, x.n = n := ⟨_, rfl⟩
  rw [hn] at c5 hno hxn
  clear h hp hm hn
  have hgt : (m : Int) < (n : Int) + (k : Int) := by omega
  clear hno
  go_enter Tryd.func54, Tryd.ntmps54
  go_wp2
  go_quiet (fail)
  go_wp2
  go_ret
  exact ⟨rfl, ((Fr.refl _ _).alloc _).drewN _⟩
theorem Fil.put_take (x : Fil) (cs : List Cell) (pos : Int) (j : Nat) (h : j < cs.length) : x.puts (cs.take (j + 1)) pos = (x.puts (cs.take j) pos).add1 (cs.getD j z78) pos := by
  have e : cs.getD j z78 = cs[j] := by simp [h]
  rw [e, List.take_succ_eq_append_getElem h]
  unfold Fil.puts
  rw [List.foldl_append]
  rfl
theorem Fil.puts_n (pos : Int) : ∀ (cs : List Cell) (x : Fil), (x.puts cs pos).n = x.n + cs.length
  | [], x => rfl
  | c :: cs, x => by
    have := Fil.puts_n pos cs (x.add1 c pos)
    simp only [Fil.puts, List.foldl_cons, List.length_cons] at *
    rw [this]; simp [Fil.add1]; omega
theorem Fil.puts_cells (pos : Int) : ∀ (cs : List Cell) (x : Fil), (x.puts cs pos).cells.length = x.cells.length
  | [], x => rfl
  | c :: cs, x => by
    have := Fil.puts_cells pos cs (x.add1 c pos)
    simp only [Fil.puts, List.foldl_cons] at *
    rw [this]; simp [Fil.add1]
theorem Fil.puts_pos (pos : Int) : ∀ (cs : List Cell) (x : Fil), (x.puts cs pos).pos.length = x.pos.length
  | [], x => rfl
  | c :: cs, x => by
    have := Fil.puts_pos pos cs (x.add1 c pos)
    simp only [Fil.puts, List.foldl_cons] at *
    rw [this]; simp [Fil.add1]
theorem cell_in {W : World} {g : Nat} {cs : List Cell} {n j : Nat} (h : W.heap[g]? = some (cellB cs)) (hn : n < cs.length) (hj : j < 6) : ∃ v, W.cell? ⟨g, n * 6 + j, none⟩ = some v := by
  have : n * 6 + j < (flat cs).length := by rw [flat_len]; omega
  exact ⟨_, cell_row h (by simp [this]; rfl)⟩
theorem Fil.at0_cells (x : Fil) (pos : Int) : (x.at0 pos).cells = x.cells := by unfold Fil.at0; split <;> rfl
theorem Fil.at0_pos (x : Fil) (pos : Int) : (x.at0 pos).pos = x.pos := by unfold Fil.at0; split <;> rfl
theorem Fil.at0_n (x : Fil) (pos : Int) : (x.at0 pos).n = x.n := by unfold Fil.at0; split <;> rfl
theorem fil_add1 {W : World} {p g q i : Nat} {y : Fil} {r : Cell} {pos : Int} (h : FilAt W p g q y) (hi : y.n = i) (hc : i < y.cells.length) (hpq : p ≠ q) (hgp : g ≠ p) (hgq : g ≠ q) (o : Obj) (v : Value) (hv : v = .int .i64 ((i : Int) + 1)) :
    FilAt (((((((((W.setCell ⟨g, i * 6, none⟩ (.int .i64 r.f0)).setCell ⟨g, i * 6 + 1, none⟩ (.int .i64 r.f1.f0)).setCell ⟨g, i * 6 + 2, none⟩ (.int .i64 r.f1.f1)).setCell ⟨g, i * 6 + 3, none⟩ (.bool r.f1.f2)).setCell ⟨g, i * 6 + 4, none⟩ (.bool r.f1.f3)).setCell ⟨g, i * 6 + 5, none⟩ (.bool r.f1.f4)).setCell ⟨q, i, none⟩ (.int .i64 pos)).setCell ⟨p, 5, none⟩ v).alloc o).drew p g q (y.add1 r pos) := by
  subst hv
  obtain ⟨h1, h2, h3⟩ := h
  refine ⟨hd_drew (hd_alloc ?_), hd_drew (hd_alloc ?_), hd_drew (hd_alloc ?_)⟩
  · rw [hs_same (hs_other (hs_other (hs_other (hs_other (hs_other (hs_other (hs_other h1 (Ne.symm hgp)) (Ne.symm hgp)) (Ne.symm hgp)) (Ne.symm hgp)) (Ne.symm hgp)) (Ne.symm hgp)) hpq)]
    simp [Fil.add1, filB, hi]
  · refine hs_other (hs_other ?_ hgq) hgp
    rw [six_block W g i r y.cells h2 hc]
    simp [Fil.add1, hi]
  · refine hs_other ?_ (Ne.symm hpq)
    rw [hs_same (hs_other (hs_other (hs_other (hs_other (hs_other (hs_other h3 (Ne.symm hgq)) (Ne.symm hgq)) (Ne.symm hgq)) (Ne.symm hgq)) (Ne.symm hgq)) (Ne.symm hgq))]
    rw [ints_set, ← hi]
    rfl
theorem fr_add1 {w W : World} {p g q i : Nat} {a1 a2 a3 a4 a5 a6 a7 a8 : Value} {o : Obj} (h : Fr (fun b => b = p ∨ b = g ∨ b = q) w W) :
    Fr (fun b => b = p ∨ b = g ∨ b = q) w (((((((((W.setCell ⟨g, i * 6, none⟩ a1).setCell ⟨g, i * 6 + 1, none⟩ a2).setCell ⟨g, i * 6 + 2, none⟩ a3).setCell ⟨g, i * 6 + 3, none⟩ a4).setCell ⟨g, i * 6 + 4, none⟩ a5).setCell ⟨g, i * 6 + 5, none⟩ a6).setCell ⟨q, i, none⟩ a7).setCell ⟨p, 5, none⟩ a8).alloc o).drew :=
  Fr.drew (Fr.alloc (((((((((h.setCell _ _ (fun _ => Or.inr (Or.inl rfl))).setCell _ _ (fun _ => Or.inr (Or.inl rfl))).setCell _ _ (fun _ => Or.inr (Or.inl rfl))).setCell _ _ (fun _ => Or.inr (Or.inl rfl))).setCell _ _ (fun _ => Or.inr (Or.inl rfl))).setCell _ _ (fun _ => Or.inr (Or.inl rfl))).setCell _ _ (fun _ => Or.inr (Or.inr rfl))).setCell _ _ (fun _ => Or.inl rfl))) _)
theorem box_add1 {W : World} {p g q i B : Nat} {a1 a2 a3 a4 a5 a6 a7 a8 : Value} {o o' : Obj} (h : W.heap[B]? = some o') (hp : B ≠ p) (hg : B ≠ g) (hq : B ≠ q) :
    (((((((((W.setCell ⟨g, i * 6, none⟩ a1).setCell ⟨g, i * 6 + 1, none⟩ a2).setCell ⟨g, i * 6 + 2, none⟩ a3).setCell ⟨g, i * 6 + 3, none⟩ a4).setCell ⟨g, i * 6 + 4, none⟩ a5).setCell ⟨g, i * 6 + 5, none⟩ a6).setCell ⟨q, i, none⟩ a7).setCell ⟨p, 5, none⟩ a8).alloc o).drew.heap[B]? = some o' :=
  hd_drew (hd_alloc (hs_other (hs_other (hs_other (hs_other (hs_other (hs_other (hs_other (hs_other h hg) hg) hg) hg) hg) hg) hq) hp))
theorem fil_start0 {w : World} {p g q n nq : Nat} {x : Fil} {pos : Int} {o : Obj} (h : FilAt w p g q x) (hn : x.n = n) (h0 : ((n : Int) == 0) = true) (hgp : g ≠ p) (hpq : p ≠ q) : FilAt (((w.alloc o).drewN nq).setCell ⟨p, 2, none⟩ (.int .i64 pos)) p g q (x.at0 pos) := by
  have e : x.n = 0 := by simp at h0; omega
  have ea : x.at0 pos = { x with fr := pos } := by unfold Fil.at0; rw [if_pos e]
  rw [ea]
  obtain ⟨h1, h2, h3⟩ := h
  refine ⟨?_, hs_other (hd_alloc h2) hgp, hs_other (hd_alloc h3) (Ne.symm hpq)⟩
  rw [hs_same (show ((w.alloc o).drewN nq).heap[p]? = _ from hd_alloc h1)]
  simp [filB]
theorem fil_start1 {w : World} {p g q n nq : Nat} {x : Fil} {pos : Int} {o : Obj} (h : FilAt w p g q x) (hn : x.n = n) (h0 : ((n : Int) == 0) = false) : FilAt ((w.alloc o).drewN nq) p g q (x.at0 pos) := by
  have e : ¬ x.n = 0 := by simp at h0; omega
  have ea : x.at0 pos = x := by unfold Fil.at0; rw [if_neg e]
  rw [ea]
  obtain ⟨h1, h2, h3⟩ := h
  exact ⟨hd_alloc h1, hd_alloc h2, hd_alloc h3⟩
set_option maxHeartbeats 1000000 in
theorem put_yes (p g q : Nat) (x : Fil) (A : Option Addr) (C : List Cell) (c : Nat) (pos : Int) (feed : Bool) (w : World) (h : FilAt w p g q x) (hl0 : 0 < x.cells.length) (hl : x.cells.length ≤ 1000000)
    (hk : C.length ≤ 1000000) (hlp : x.pos.length = x.cells.length) (hr : Kd.C k78 w A C.length C) (hA : ∀ ad, A = some ad → ad.block ≠ p ∧ ad.block ≠ g ∧ ad.block ≠ q)
    (hyes : x.n + C.length ≤ x.cells.length - 1) (hpq : p ≠ q) (hgp : g ≠ p) (hgq : g ≠ q) :
    Calls Tryd.prog 54 #[.pointer (some ⟨p, 0, none⟩), .agg #[.slice A C.length c, .int .i64 pos, .bool feed]] w fun e w' => e = .returned (.bool true) ∧
      FilAt w' p g q (x.put C pos) ∧ Fr (fun b => b = p ∨ b = g ∨ b = q) w w' := by
  obtain ⟨m, hm⟩ : ∃ m, x.cells.length = m + 1 := ⟨x.cells.length - 1, by omega⟩
  have hp := h.1
  rw [hm] at hp
  have c0 : w.cell? ⟨p, 0, none⟩ = some (.slice (some ⟨g, 0, none⟩) (m + 1) (m + 1)) := cell_row hp rfl
  have c5 : w.cell? ⟨p, 5, none⟩ = some (.int .i64 x.n) := cell_row hp rfl
  have c2 : w.cell? ⟨p, 2, none⟩ = some (.int .i64 x.fr) := cell_row hp rfl
  have f2 : w.frozen? ⟨p, 2, none⟩ = false := free_row hp
  have hpw : p < w.heap.size := lt_of_block hp
  have hle : (x.n : Int) + (C.length : Int) ≤ (m : Int) := by omega
  have hm1 : m ≤ 1000000 := by omega
  have H := Lib.hid h
  have HM := Lib.hid hm
  have HR := Lib.hid hr
  have HL := Lib.hid hlp
  clear h hp hm hr hlp
  obtain ⟨n, hn⟩ : ∃ n, x.n = n := ⟨_, rfl⟩
  obtain ⟨k, hkk⟩ : ∃ k, C.length = k := ⟨_, rfl⟩
  rw [hn] at c5 hle
  rw [hkk] at hle hk ⊢
  have HN := Lib.hid hn
  have HK := Lib.hid hkk
  clear hn hkk hyes hl hl0
  have hnle : ¬ ((m : Int) < (n : Int) + (k : Int)) := by omega
  rcases Nat.eq_zero_or_pos n with h0 | h0
  · have hb : ((n : Int) == 0) = true := by simp [h0]
    clear h0
    go_enter Tryd.func54, Tryd.ntmps54
    go_wp2
    go_quiet (fail)
    go_wp2
    go_loopw [37] (fun i wr => ∃ j : Nat, j ≤ k ∧ i = .int .i64 j ∧ FilAt wr p g q ((x.at0 pos).puts (C.take j) pos) ∧ Fr (fun b => b = p ∨ b = g ∨ b = q) w wr ∧ wr.heap[w.heap.size]? = some (boxU (.slice A k c) pos feed)) (fun i _ => k - (intOf i).toNat)
    case atStart => exact ⟨0, Nat.zero_le _, rfl, by first | exact fil_start0 H.out HN.out hb hgp hpq | exact fil_start1 H.out HN.out hb, by first | exact (((Fr.refl _ _).alloc _).drewN _).setCell _ _ (fun _ => Or.inl rfl) | exact ((Fr.refl _ _).alloc _).drewN _, by first | exact hs_other (heap_alloc_new _ _) (Nat.ne_of_gt hpw) | exact heap_alloc_new _ _⟩
    case round =>
      obtain ⟨j, hj, rfl, hF, hfr, hbx⟩ := hrel
      clear c0 c2 c5 f2
      by_cases hlt : j < k
      · obtain ⟨ad, hAd, e0, e1, e2, e3, e4, e5⟩ := at_T78 HR.out (j : Int) (by omega) (by have := HK.out; omega)
        rw [Int.toNat_natCast] at e0 e1 e2 e3 e4 e5
        have hb3 := hA ad hAd
        have hab : (ad.add (j * 6)).block = ad.block := by unfold Addr.add; split <;> rfl
        subst hAd
        obtain ⟨a, ha⟩ : ∃ a, ad.add (j * 6) = a := ⟨_, rfl⟩
        rw [ha] at e0 e1 e2 e3 e4 e5 hab
        rw [← hab] at hb3
        obtain ⟨r, hr⟩ : ∃ r, rd_T78 C (j : Int) = r := ⟨_, rfl⟩
        rw [hr] at e0 e1 e2 e3 e4 e5
        obtain ⟨y, hy⟩ : ∃ y, (x.at0 pos).puts (C.take j) pos = y := ⟨_, rfl⟩
        rw [hy] at hF
        have yn : y.n = n + j := by rw [← hy, Fil.puts_n, Fil.at0_n, HN.out, List.length_take, HK.out, Nat.min_eq_left (by omega)]
        have yc : y.cells.length = m + 1 := by rw [← hy, Fil.puts_cells, Fil.at0_cells, HM.out]
        have yp : y.pos.length = m + 1 := by rw [← hy, Fil.puts_pos, Fil.at0_pos, HL.out, HM.out]
        have hp := hF.1
        rw [yn, yc, yp] at hp
        have c0 : wr.cell? ⟨p, 0, none⟩ = some (.slice (some ⟨g, 0, none⟩) (m + 1) (m + 1)) := cell_row hp rfl
        have c1 : wr.cell? ⟨p, 1, none⟩ = some (.slice (some ⟨q, 0, none⟩) (m + 1) (m + 1)) := cell_row hp rfl
        have c5 : wr.cell? ⟨p, 5, none⟩ = some (.int .i64 ((n : Int) + (j : Int))) := (cell_row hp rfl).trans (by simp)
        have f5 : wr.frozen? ⟨p, 5, none⟩ = false := free_row hp
        have hfb : ∀ b : Nat, b < w.heap.size → ¬ (b = p ∨ b = g ∨ b = q) → wr.heap[b]? = w.heap[b]? := hfr.block
        have cw : ∀ j v, w.cell? ⟨a.block, j, none⟩ = some v → wr.cell? ⟨a.block, j, none⟩ = some v := fun j v h => (World.cell?_of_block (w := w) (a := ⟨a.block, j, none⟩) (hfb a.block (World.block_lt_of_cell? _ (⟨a.block, j, none⟩ : Addr) h) (by rintro (h | h | h); exact hb3.1 h; exact hb3.2.1 h; exact hb3.2.2 h))).trans h
        replace e0 : wr.cell? a = some (.int .i64 r.f0) := (World.cell?_of_block (w := w) (hfb a.block (World.block_lt_of_cell? _ _ e0) (by rintro (h | h | h); exact hb3.1 h; exact hb3.2.1 h; exact hb3.2.2 h))).trans e0
        replace e1 := cw _ _ e1
        replace e2 := cw _ _ e2
        replace e3 := cw _ _ e3
        replace e4 := cw _ _ e4
        replace e5 := cw _ _ e5
        obtain ⟨i, hi⟩ : ∃ i, n + j = i := ⟨_, rfl⟩
        have hij : (n : Int) + (j : Int) = (i : Int) := by omega
        have him : i < m := by omega
        rw [hij] at c5
        obtain ⟨v0, g0⟩ := cell_in (n := i) (j := 0) hF.2.1 (by omega) (by omega)
        obtain ⟨v1, g1⟩ := cell_in (n := i) (j := 1) hF.2.1 (by omega) (by omega)
        obtain ⟨v2, g2⟩ := cell_in (n := i) (j := 2) hF.2.1 (by omega) (by omega)
        obtain ⟨v3, g3⟩ := cell_in (n := i) (j := 3) hF.2.1 (by omega) (by omega)
        obtain ⟨v4, g4⟩ := cell_in (n := i) (j := 4) hF.2.1 (by omega) (by omega)
        obtain ⟨v5, g5⟩ := cell_in (n := i) (j := 5) hF.2.1 (by omega) (by omega)
        rw [Nat.add_zero] at g0
        have z0 : wr.frozen? ⟨g, i * 6, none⟩ = false := free_row hF.2.1
        have z1 : wr.frozen? ⟨g, i * 6 + 1, none⟩ = false := free_row hF.2.1
        have z2 : wr.frozen? ⟨g, i * 6 + 2, none⟩ = false := free_row hF.2.1
        have z3 : wr.frozen? ⟨g, i * 6 + 3, none⟩ = false := free_row hF.2.1
        have z4 : wr.frozen? ⟨g, i * 6 + 4, none⟩ = false := free_row hF.2.1
        have z5 : wr.frozen? ⟨g, i * 6 + 5, none⟩ = false := free_row hF.2.1
        have q0 : wr.cell? ⟨q, i, none⟩ = some (.int .i64 (y.pos.getD i 0)) := cell_row hF.2.2 (ints_at _ _ (by omega))
        have zq : wr.frozen? ⟨q, i, none⟩ = false := free_row hF.2.2
        have Hi := Lib.hid hi
        have hgr : g < wr.heap.size := lt_of_block hF.2.1
        have hqr : q < wr.heap.size := lt_of_block hF.2.2
        have hgB : g ≠ w.heap.size := Nat.ne_of_lt (lt_of_block H.out.2.1)
        have hqB : q ≠ w.heap.size := Nat.ne_of_lt (lt_of_block H.out.2.2)
        have hBg := Ne.symm hgB
        have hBq := Ne.symm hqB
        have hqp : q ≠ p := Ne.symm hpq
        have hpg : p ≠ g := Ne.symm hgp
        have hqg : q ≠ g := Ne.symm hgq
        have u1 : wr.cell? ⟨w.heap.size, 1, none⟩ = some (.int .i64 pos) := cell_row hbx rfl
        have HF := Lib.hid hF
        have HFR := Lib.hid hfr
        have HBX := Lib.hid hbx
        have HYN := Lib.hid yn
        have HYC := Lib.hid yc
        have HB3 := Lib.hid hb3
        have Hr := Lib.hid hr
        have Hy := Lib.hid hy
        have hsz : w.heap.size < wr.heap.size := lt_of_block hbx
        have hpr : p < wr.heap.size := lt_of_block hF.1
        clear hF hfr hbx hb3 hr hy yn yc yp hp cw hfb hab hA hi hij
        go_wp2
        go_region
        go_wp2
        have hy2 : (x.at0 pos).puts (C.take (j + 1)) pos = y.add1 r pos := by
          rw [Fil.put_take _ _ _ _ (by have := HK.out; omega), Hy.out, ← Hr.out]; rfl
        refine ⟨⟨j + 1, by omega, by go_num, by rw [hy2]; exact fil_add1 HF.out (by have := HYN.out; have := Hi.out; omega) (by have := HYC.out; omega) hpq hgp hgq _ _ rfl, fr_add1 HFR.out, box_add1 HBX.out (Nat.ne_of_gt hpw) hBg hBq⟩, by simp [intOf]; omega⟩
      · obtain rfl : j = k := by omega
        have HF := Lib.hid hF
        have HFR := Lib.hid hfr
        clear hF hfr hbx hA
        go_wp2
        go_ret
        refine ⟨rfl, ?_, HFR.out⟩
        have := HF.out
        rwa [← HK.out, List.take_length] at this
  · have hb : ((n : Int) == 0) = false := by simp; omega
    clear h0
    go_enter Tryd.func54, Tryd.ntmps54
    go_wp2
    go_quiet (fail)
    go_wp2
    go_loopw [37] (fun i wr => ∃ j : Nat, j ≤ k ∧ i = .int .i64 j ∧ FilAt wr p g q ((x.at0 pos).puts (C.take j) pos) ∧ Fr (fun b => b = p ∨ b = g ∨ b = q) w wr ∧ wr.heap[w.heap.size]? = some (boxU (.slice A k c) pos feed)) (fun i _ => k - (intOf i).toNat)
    case atStart => exact ⟨0, Nat.zero_le _, rfl, by first | exact fil_start0 H.out HN.out hb hgp hpq | exact fil_start1 H.out HN.out hb, by first | exact (((Fr.refl _ _).alloc _).drewN _).setCell _ _ (fun _ => Or.inl rfl) | exact ((Fr.refl _ _).alloc _).drewN _, by first | exact hs_other (heap_alloc_new _ _) (Nat.ne_of_gt hpw) | exact heap_alloc_new _ _⟩
    case round =>
      obtain ⟨j, hj, rfl, hF, hfr, hbx⟩ := hrel
      clear c0 c2 c5 f2
      by_cases hlt : j < k
      · obtain ⟨ad, hAd, e0, e1, e2, e3, e4, e5⟩ := at_T78 HR.out (j : Int) (by omega) (by have := HK.out; omega)
        rw [Int.toNat_natCast] at e0 e1 e2 e3 e4 e5
        have hb3 := hA ad hAd
        have hab : (ad.add (j * 6)).block = ad.block := by unfold Addr.add; split <;> rfl
        subst hAd
        obtain ⟨a, ha⟩ : ∃ a, ad.add (j * 6) = a := ⟨_, rfl⟩
        rw [ha] at e0 e1 e2 e3 e4 e5 hab
        rw [← hab] at hb3
        obtain ⟨r, hr⟩ : ∃ r, rd_T78 C (j : Int) = r := ⟨_, rfl⟩
        rw [hr] at e0 e1 e2 e3 e4 e5
        obtain ⟨y, hy⟩ : ∃ y, (x.at0 pos).puts (C.take j) pos = y := ⟨_, rfl⟩
        rw [hy] at hF
        have yn : y.n = n + j := by rw [← hy, Fil.puts_n, Fil.at0_n, HN.out, List.length_take, HK.out, Nat.min_eq_left (by omega)]
        have yc : y.cells.length = m + 1 := by rw [← hy, Fil.puts_cells, Fil.at0_cells, HM.out]
        have yp : y.pos.length = m + 1 := by rw [← hy, Fil.puts_pos, Fil.at0_pos, HL.out, HM.out]
        have hp := hF.1
        rw [yn, yc, yp] at hp
        have c0 : wr.cell? ⟨p, 0, none⟩ = some (.slice (some ⟨g, 0, none⟩) (m + 1) (m + 1)) := cell_row hp rfl
        have c1 : wr.cell? ⟨p, 1, none⟩ = some (.slice (some ⟨q, 0, none⟩) (m + 1) (m + 1)) := cell_row hp rfl
        have c5 : wr.cell? ⟨p, 5, none⟩ = some (.int .i64 ((n : Int) + (j : Int))) := (cell_row hp rfl).trans (by simp)
        have f5 : wr.frozen? ⟨p, 5, none⟩ = false := free_row hp
        have hfb : ∀ b : Nat, b < w.heap.size → ¬ (b = p ∨ b = g ∨ b = q) → wr.heap[b]? = w.heap[b]? := hfr.block
        have cw : ∀ j v, w.cell? ⟨a.block, j, none⟩ = some v → wr.cell? ⟨a.block, j, none⟩ = some v := fun j v h => (World.cell?_of_block (w := w) (a := ⟨a.block, j, none⟩) (hfb a.block (World.block_lt_of_cell? _ (⟨a.block, j, none⟩ : Addr) h) (by rintro (h | h | h); exact hb3.1 h; exact hb3.2.1 h; exact hb3.2.2 h))).trans h
        replace e0 : wr.cell? a = some (.int .i64 r.f0) := (World.cell?_of_block (w := w) (hfb a.block (World.block_lt_of_cell? _ _ e0) (by rintro (h | h | h); exact hb3.1 h; exact hb3.2.1 h; exact hb3.2.2 h))).trans e0
        replace e1 := cw _ _ e1
        replace e2 := cw _ _ e2
        replace e3 := cw _ _ e3
        replace e4 := cw _ _ e4
        replace e5 := cw _ _ e5
        obtain ⟨i, hi⟩ : ∃ i, n + j = i := ⟨_, rfl⟩
        have hij : (n : Int) + (j : Int) = (i : Int) := by omega
        have him : i < m := by omega
        rw [hij] at c5
        obtain ⟨v0, g0⟩ := cell_in (n := i) (j := 0) hF.2.1 (by omega) (by omega)
        obtain ⟨v1, g1⟩ := cell_in (n := i) (j := 1) hF.2.1 (by omega) (by omega)
        obtain ⟨v2, g2⟩ := cell_in (n := i) (j := 2) hF.2.1 (by omega) (by omega)
        obtain ⟨v3, g3⟩ := cell_in (n := i) (j := 3) hF.2.1 (by omega) (by omega)
        obtain ⟨v4, g4⟩ := cell_in (n := i) (j := 4) hF.2.1 (by omega) (by omega)
        obtain ⟨v5, g5⟩ := cell_in (n := i) (j := 5) hF.2.1 (by omega) (by omega)
        rw [Nat.add_zero] at g0
        have z0 : wr.frozen? ⟨g, i * 6, none⟩ = false := free_row hF.2.1
        have z1 : wr.frozen? ⟨g, i * 6 + 1, none⟩ = false := free_row hF.2.1
        have z2 : wr.frozen? ⟨g, i * 6 + 2, none⟩ = false := free_row hF.2.1
        have z3 : wr.frozen? ⟨g, i * 6 + 3, none⟩ = false := free_row hF.2.1
        have z4 : wr.frozen? ⟨g, i * 6 + 4, none⟩ = false := free_row hF.2.1
        have z5 : wr.frozen? ⟨g, i * 6 + 5, none⟩ = false := free_row hF.2.1
        have q0 : wr.cell? ⟨q, i, none⟩ = some (.int .i64 (y.pos.getD i 0)) := cell_row hF.2.2 (ints_at _ _ (by omega))
        have zq : wr.frozen? ⟨q, i, none⟩ = false := free_row hF.2.2
        have Hi := Lib.hid hi
        have hgr : g < wr.heap.size := lt_of_block hF.2.1
        have hqr : q < wr.heap.size := lt_of_block hF.2.2
        have hgB : g ≠ w.heap.size := Nat.ne_of_lt (lt_of_block H.out.2.1)
        have hqB : q ≠ w.heap.size := Nat.ne_of_lt (lt_of_block H.out.2.2)
        have hBg := Ne.symm hgB
        have hBq := Ne.symm hqB
        have hqp : q ≠ p := Ne.symm hpq
        have hpg : p ≠ g := Ne.symm hgp
        have hqg : q ≠ g := Ne.symm hgq
        have u1 : wr.cell? ⟨w.heap.size, 1, none⟩ = some (.int .i64 pos) := cell_row hbx rfl
        have HF := Lib.hid hF
        have HFR := Lib.hid hfr
        have HBX := Lib.hid hbx
        have HYN := Lib.hid yn
        have HYC := Lib.hid yc
        have HB3 := Lib.hid hb3
        have Hr := Lib.hid hr
        have Hy := Lib.hid hy
        have hsz : w.heap.size < wr.heap.size := lt_of_block hbx
        have hpr : p < wr.heap.size := lt_of_block hF.1
        clear hF hfr hbx hb3 hr hy yn yc yp hp cw hfb hab hA hi hij
        go_wp2
        go_region
        go_wp2
        have hy2 : (x.at0 pos).puts (C.take (j + 1)) pos = y.add1 r pos := by
          rw [Fil.put_take _ _ _ _ (by have := HK.out; omega), Hy.out, ← Hr.out]; rfl
        refine ⟨⟨j + 1, by omega, by go_num, by rw [hy2]; exact fil_add1 HF.out (by have := HYN.out; have := Hi.out; omega) (by have := HYC.out; omega) hpq hgp hgq _ _ rfl, fr_add1 HFR.out, box_add1 HBX.out (Nat.ne_of_gt hpw) hBg hBq⟩, by simp [intOf]; omega⟩
      · obtain rfl : j = k := by omega
        have HF := Lib.hid hF
        have HFR := Lib.hid hfr
        clear hF hfr hbx hA
        go_wp2
        go_ret
        refine ⟨rfl, ?_, HFR.out⟩
        have := HF.out
        rwa [← HK.out, List.take_length] at this
end Go.Proofs.YtppjgofjjcdcdaaDoor

/- layout.cells: the cells of a character. -/
namespace Go.Proofs.YtppjgofjjcdcdaaDoor
open PLayoutRows
open Go.RowKit Go.Proofs.YtppjgofjjcdcdaaDoorW.PrintWords
abbrev Look := S53
def lookV (l : Look) : List Value := [.int .i64 l.f0, .int .i64 l.f1, .bool l.f2, .bool l.f3, .bool l.f4]
def ctl (c : Int) : Bool := decide (c < 32) || (c == 127)
def xorP (c : Int) : Int := bits .xor .i64 c 64
def cellsP (c : Int) (l : Look) : List Cell :=
  if ctl c then [⟨94, l⟩, ⟨xorP c, l⟩] else if widthP c = 0 then [] else if widthP c = 2 then [⟨c, l⟩, ⟨-1, l⟩] else [⟨c, l⟩]
/-- A slice of cells of the call's own: nil if there are none. -/
def CellsV (w0 W : World) (v : Value) (cs : List Cell) : Prop :=
  (cs = [] ∧ v = .slice none 0 0) ∨ (cs ≠ [] ∧ ∃ b, w0.heap.size ≤ b ∧ v = .slice (some ⟨b, 0, none⟩) cs.length cs.length ∧ W.heap[b]? = some (cellB cs))
theorem width_012 (c : Int) : widthP c = 0 ∨ widthP c = 2 ∨ widthP c = 1 := by
  unfold widthP; split
  · exact .inl rfl
  · split
    · exact .inr (.inl rfl)
    · exact .inr (.inr rfl)
set_option maxHeartbeats 400000 in
theorem cells_any (c pos : Int) (l : Look) (w : World) :
    Calls Tryd.prog 67 #[.agg #[.int .i64 c, .int .i64 pos, .int .i64 l.f0, .int .i64 l.f1, .bool l.f2, .bool l.f3, .bool l.f4]] w fun e w' => ∃ v, e = .returned v ∧ CellsV w w' v (cellsP c l) ∧ Fr Non w w' := by
  obtain ⟨r, hr⟩ : ∃ r, cellsP c l = r := ⟨_, rfl⟩
  rw [hr]
  have HR := Lib.hid hr
  clear hr
  obtain ⟨W0, hW0⟩ : ∃ W0, w.alloc (.cells #[.int .i64 c, .int .i64 pos, .int .i64 l.f0, .int .i64 l.f1, .bool l.f2, .bool l.f3, .bool l.f4] 116) = W0 := ⟨_, rfl⟩
  have hbx : W0.heap[w.heap.size]? = some (.cells #[.int .i64 c, .int .i64 pos, .int .i64 l.f0, .int .i64 l.f1, .bool l.f2, .bool l.f3, .bool l.f4] 116 (0, 0)) := by rw [← hW0]; exact heap_alloc_new _ _
  have hf0 : Fr Non w W0 := by rw [← hW0]; exact (Fr.refl _ _).alloc _
  have HW := width_any c W0
  obtain ⟨d, hd⟩ : ∃ d, widthP c = d := ⟨_, rfl⟩
  have hd3 : d = 0 ∨ d = 2 ∨ d = 1 := hd ▸ width_012 c
  rw [hd] at HW
  have HD := Lib.hid hd
  have HWW := Lib.hid HW
  have HB := Lib.hid hbx
  have HF := Lib.hid hf0
  have H3 := Lib.hid hd3
  clear hd HW hbx hf0 hd3
  have HW0 := Lib.hid hW0
  clear hW0
  go_enter Tryd.func67, Tryd.ntmps67
  go_wp2_with fail
  rw [HW0.out]
  refine HWW.out.mono ?_
  rintro e W ⟨rfl, hW⟩
  have hb2 := hW.at HB.out id
  have c0 : W.cell? ⟨w.heap.size, 0, none⟩ = some (.int .i64 c) := cell_row hb2 rfl
  have c2 : W.cell? ⟨w.heap.size, 2, none⟩ = some (.int .i64 l.f0) := cell_row hb2 rfl
  have c3 : W.cell? ⟨w.heap.size, 3, none⟩ = some (.int .i64 l.f1) := cell_row hb2 rfl
  have c4 : W.cell? ⟨w.heap.size, 4, none⟩ = some (.bool l.f2) := cell_row hb2 rfl
  have c5 : W.cell? ⟨w.heap.size, 5, none⟩ = some (.bool l.f3) := cell_row hb2 rfl
  have c6 : W.cell? ⟨w.heap.size, 6, none⟩ = some (.bool l.f4) := cell_row hb2 rfl
  have HFW := Lib.hid (HF.out.trans hW)
  clear hb2 hW
  by_cases h1 : c < 32
  · go_wp2
    go_ret
    refine ⟨_, rfl, .inr ?_, HFW.out.alloc _⟩
    rw [← HR.out]
    have e1 : ctl c = true := by simp [ctl, h1]
    unfold cellsP
    rw [if_pos e1]
    exact ⟨by simp, _, HFW.out.size, rfl, heap_alloc_new _ _⟩
  · by_cases h2 : c = 127
    · have hb1 : (c == 127) = true := by simp [h2]
      have e1 : ctl c = true := by simp [ctl, h2]
      have E1 := Lib.hid e1
      clear e1 h2
      go_wp2
      go_ret
      refine ⟨_, rfl, .inr ?_, HFW.out.alloc _⟩
      rw [← HR.out]
      unfold cellsP
      rw [if_pos E1.out]
      exact ⟨by simp, _, HFW.out.size, rfl, heap_alloc_new _ _⟩
    · have hb1 : (c == 127) = false := by simp [h2]
      have e1 : ctl c = false := by simp [ctl, h2]; omega
      have E1 := Lib.hid e1
      clear e1 h2
      rcases H3.out with e | e | e
      · subst e
        go_wp2
        go_ret
        refine ⟨_, rfl, .inl ⟨?_, rfl⟩, HFW.out⟩
        rw [← HR.out]
        unfold cellsP
        rw [if_neg (by rw [E1.out]; simp), if_pos HD.out]
      · subst e
        go_wp2
        go_ret
        refine ⟨_, rfl, .inr ?_, HFW.out.alloc _⟩
        rw [← HR.out]
        unfold cellsP
        rw [if_neg (by rw [E1.out]; simp), if_neg (by rw [HD.out]; omega), if_pos HD.out]
        exact ⟨by simp, _, HFW.out.size, rfl, heap_alloc_new _ _⟩
      · subst e
        go_wp2
        go_ret
        refine ⟨_, rfl, .inr ?_, HFW.out.alloc _⟩
        rw [← HR.out]
        unfold cellsP
        rw [if_neg (by rw [E1.out]; simp), if_neg (by rw [HD.out]; omega), if_neg (by rw [HD.out]; omega)]
        exact ⟨by simp, _, HFW.out.size, rfl, heap_alloc_new _ _⟩
end Go.Proofs.YtppjgofjjcdcdaaDoor

/- layout.chars: the characters of parts, handed to a consumer. -/
namespace Go.Proofs.YtppjgofjjcdcdaaDoor
open PLayoutRows
open Go.RowKit Go.Proofs.YtppjgofjjcdcdaaDoorW.PrintWords
attribute [local go_sem] Oper.semAt_some
abbrev Part := S55
structure Chr where
  c : Int
  pos : Int
  look : Look
def chrV (x : Chr) : Value := .agg #[.int .i64 x.c, .int .i64 x.pos, .int .i64 x.look.f0, .int .i64 x.look.f1, .bool x.look.f2, .bool x.look.f3, .bool x.look.f4]
def runesFrom (s : ByteArray) : Nat → Nat → List Int
  | 0, _ => []
  | n + 1, k => if k < s.size then ((Utf8.decode s k).1 : Int) :: runesFrom s n (k + (Utf8.decode s k).2) else []
def runesP (s : ByteArray) : List Int := runesFrom s s.size 0
def charsFrom (kind : Int) (look : Look) : Int → List Int → List Chr
  | _, [] => []
  | pos, c :: cs => ⟨c, pos, look⟩ :: charsFrom kind look (if kind = 0 then pos + 1 else pos) cs
def partChars (p : Part) : List Chr := charsFrom p.f0 p.f4 p.f1 (runesP p.f3)
def charsP (l : List Part) : List Chr := l.flatMap partChars
theorem runesFrom_end (s : ByteArray) (n k : Nat) (h : ¬ k < s.size) : runesFrom s n k = [] := by cases n <;> simp [runesFrom, h]
theorem decode_pos (s : ByteArray) (pos : Nat) (h : pos < s.size) : 1 ≤ (Utf8.decode s pos).2 := by
  by_cases ha : (s[pos]'h).toNat < 128
  · rw [decode_ascii s pos h ha]
    exact Nat.le_refl _
  · exact (decode_high s pos h (by omega)).2
theorem fr_iterAt (w : World) (k : Nat) (s : ByteArray) (p : Nat) : Fr (fun b => b = k) w (w.iterAt k s p) :=
  ⟨rfl, rfl, rfl, by rw [Lib.iterAt_size]; exact Nat.le_refl _, fun b _ hb => Lib.iterAt_other _ _ _ _ _ hb⟩
theorem iterPos_of {w : World} {k : Nat} {s : ByteArray} {p : Nat} (h : w.heap[k]? = some (.stringIter s p)) : w.iterPos k = p := by simp [World.iterPos, h]
theorem charsP_pre (l : List Part) (k : Nat) : charsP (l.take k) <+: charsP l := by
  refine ⟨charsP (l.drop k), ?_⟩
  unfold charsP
  rw [← List.flatMap_append, List.take_append_drop]
theorem charsP_succ (l : List Part) (k : Nat) (h : k < l.length) : charsP (l.take (k + 1)) = charsP (l.take k) ++ partChars (l.getD k z55) := by
  unfold charsP
  rw [List.take_succ_eq_append_getElem h, List.flatMap_append]
  simp [h]
set_option maxRecDepth 100000
set_option maxHeartbeats 2000000 in
theorem chars_iter (c : Cons Tryd.prog Chr) (hrep : ∀ x W O, c.Rep x #[chrV x] W O)
    (bl : Nat) (A : Option Addr) (cap : Nat) (l : List Part) (hit : c.items = charsP l) (w0 W : World) (O0 : Nat → Prop)
    (hJ : c.J [] O0 W) (hlo : c.lo ≤ W.heap.size) (hbl : W.heap[bl]? = some (.cells #[.slice A l.length cap] 22 (0, 0)))
    (hd : Kd.C k55 w0 A l.length l) (hb : Below w0.heap.size w0 W) (hbase : c.base = w0.heap.size)
    (hpos : ∀ p ∈ l, 0 ≤ p.f1 ∧ p.f1 + p.f3.size ≤ 4611686018427387904) (hlen : l.length ≤ 1000000000) :
    CallsIn Fence.wide 0 Tryd.prog 74 #[.func (.yield c.l) #[] #[], .pointer (some ⟨bl, 0, none⟩)] W fun e W' => (∃ v, e = .returned v) ∧ Feeds c O0 W W' := by
  have hc0 : W.cell? ⟨bl, 0, none⟩ = some (.slice A l.length cap) := cell_row hbl rfl
  have HJ := Lib.hid hJ
  have HD := Lib.hid hd
  have HB := Lib.hid hb
  have HP := Lib.hid hpos
  have HBA := Lib.hid hbase
  have HREP := Lib.hid hrep
  have HIT := Lib.hid hit
  clear hJ hd hb hpos hbl hbase hrep hit
  refine callsIn_of_wp Tryd.func74 rfl trivial ?_ rfl
  simp only [Tryd.ntmps74, List.size_toArray, List.length_cons, List.length_nil, Nat.reduceAdd, Nat.reduceSub, Array.replicate_succ, Array.replicate_zero, List.push_toArray, List.append_toArray, List.nil_append, List.cons_append]
  gi_wp2
  gi_loopw [10] (fun i wr => ∃ (k : Nat) (O : Nat → Prop), i = .int .i64 k ∧ k ≤ l.length ∧ c.J (charsP (l.take k)) O wr ∧ Step O0 O W wr) (fun i _ => l.length - (intOf i).toNat)
  case atStart => exact ⟨0, O0, rfl, Nat.zero_le _, by simpa [charsP] using HJ.out, Step.refl _ _⟩
  case round =>
    obtain ⟨k, O, rfl, hk, hJk, hS⟩ := hrel
    have hbk : Below w0.heap.size w0 wr := HB.out.trans (hS.below HB.out.size (fun b hb => by rw [← HBA.out]; exact c.own HJ.out b hb))
    by_cases hkl : k < l.length
    · obtain ⟨ad, hA, f0, f1, f2, f3, f4, f5, f6, f7, f8⟩ := at_T55 (Kd.C_below HD.out hbk) (k : Int) (by omega) (by omega)
      simp only [Int.toNat_natCast] at f0 f1 f2 f3 f4 f5 f6 f7 f8
      obtain ⟨p, hp⟩ : ∃ p, rd_T55 l (k : Int) = p := ⟨_, rfl⟩
      rw [hp] at f0 f1 f2 f3 f4 f5 f6 f7 f8
      subst hA
      have hpd : l.getD k z55 = p := hp
      have hpm : p ∈ l := by rw [← hpd]; simp [hkl]
      have HJK := Lib.hid hJk
      have HS := Lib.hid hS
      have HP1 := Lib.hid hp
      have HBK := Lib.hid hbk
      clear hJk hS hbk hp
      obtain ⟨wo, rfl⟩ : ∃ wo, wo = wr := ⟨wr, rfl⟩
      gi_wp2
      gi_loopw [5] (fun ps wi => ∃ (pos : Int) (kp fuel : Nat) (pre : List Chr) (O1 : Nat → Prop), ps = .int .i64 pos ∧ wi.heap[wo.heap.size + 1]? = some (.stringIter p.f3 kp) ∧
          wi.heap[wo.heap.size]? = some (.cells #[.int .i64 p.f0, .int .i64 p.f1, .int .i64 p.f2, .string p.f3, .int .i64 p.f4.f0, .int .i64 p.f4.f1, .bool p.f4.f2, .bool p.f4.f3, .bool p.f4.f4] 55 (0, 0)) ∧
          ¬ O1 wo.heap.size ∧ ¬ O1 (wo.heap.size + 1) ∧ p.f3.size ≤ kp + fuel ∧ (pos ≤ p.f1 + kp ∨ p.f3.size ≤ kp) ∧ 0 ≤ pos ∧ pre ++ charsFrom p.f0 p.f4 pos (runesFrom p.f3 fuel kp) = charsP (l.take (k + 1)) ∧
          c.J pre O1 wi ∧ Step O0 O1 W wi) (fun _ wi => p.f3.size - wi.iterPos (wo.heap.size + 1))
      case atStart =>
        have hOlt : ∀ b, O b → b < wo.heap.size := fun b hb => c.lt HJK.out hb
        have hf : Fr Non wo ((wo.alloc (.cells #[.int .i64 p.f0, .int .i64 p.f1, .int .i64 p.f2, .string p.f3, .int .i64 p.f4.f0, .int .i64 p.f4.f1, .bool p.f4.f2, .bool p.f4.f3, .bool p.f4.f4] 55)).iter p.f3 0) := ((Fr.refl _ _).alloc _).alloc _
        refine ⟨p.f1, 0, p.f3.size, charsP (l.take k), O, rfl, ?_, ?_, fun h => absurd (hOlt _ h) (by omega), fun h => absurd (hOlt _ h) (by omega), by omega, .inl (by simp), ?_, ?_, ?_, ?_⟩
        · simpa using World.iter_heap (wo.alloc _) p.f3 0
        · exact hd_alloc (World.alloc_heap_new _ _)
        · exact (HP.out p hpm).1
        · rw [charsP_succ l k hkl, hpd]; rfl
        · exact c.stable HJK.out hf (fun _ _ h => h.elim)
        · exact HS.out.own hf (fun _ _ h => h.elim)
      case round =>
        obtain ⟨pos, kp, fuel, pre, O1, rfl, g1, g2, g3, g4, g5, g6, g7, g8, g9, g10⟩ := hrel
        have hsz : wo.heap.size + 1 < wr.heap.size := lt_of_block g1
        by_cases hp : kp < p.f3.size
        · have hnx : ∀ ty, (Instr.next (.pointer (some ⟨wo.heap.size + 1, 0, none⟩)) true ty).run Tryd.prog wr = _ := fun ty => Lib.run_next_any_at wr (wo.heap.size + 1) p.f3 kp ty g1 hp
          obtain ⟨fuel, rfl⟩ : ∃ f, fuel = f + 1 := ⟨fuel - 1, by omega⟩
          have hdp := decode_pos p.f3 kp hp
          have hdl := decode_le p.f3 kp
          simp only [runesFrom, hp, if_true, charsFrom] at g8
          obtain ⟨dc, hdc⟩ : ∃ dc, (Utf8.decode p.f3 kp).1 = dc := ⟨_, rfl⟩
          obtain ⟨dw, hdw⟩ : ∃ dw, (Utf8.decode p.f3 kp).2 = dw := ⟨_, rfl⟩
          rw [hdc, hdw] at hnx
          rw [hdc, hdw] at g8
          rw [hdc] at hdl
          rw [hdw] at hdp
          obtain ⟨Wx, hWx⟩ : ∃ Wx, wr.iterAt (wo.heap.size + 1) p.f3 (kp + dw) = Wx := ⟨_, rfl⟩
          rw [hWx] at hnx
          have fx : Fr (fun b => b = wo.heap.size + 1) wr Wx := hWx ▸ fr_iterAt _ _ _ _
          have x1 : Wx.heap[wo.heap.size + 1]? = some (.stringIter p.f3 (kp + dw)) := hWx ▸ Lib.iterAt_heap _ _ _ _ _ g1
          have x2 := fx.at g2 (by omega)
          have hJx : c.J pre O1 Wx := c.stable g9 fx (fun b _ h => by subst h; exact ⟨g4, by have := HS.out.1.size; omega⟩)
          have hSx : Step O0 O1 W Wx := g10.own fx (fun b _ h => by have := HS.out.1.size; omega)
          have hi : pre ++ [⟨(dc : Int), pos, p.f4⟩] <+: c.items := by
            rw [HIT.out]
            refine List.IsPrefix.trans ?_ (charsP_pre l (k + 1))
            rw [← g8]
            exact ⟨_, by rw [List.append_assoc]; rfl⟩
          have hi' := hi
          obtain ⟨tm, hy, hR⟩ := c.yield hi hJx (HREP.out _ Wx O1)
          simp only [chrV] at hy
          have y0 : Wx.cell? ⟨wo.heap.size, 0, none⟩ = some (.int .i64 p.f0) := cell_row x2 rfl
          have y1 : Wx.cell? ⟨wo.heap.size, 4, none⟩ = some (.int .i64 p.f4.f0) := cell_row x2 rfl
          have y2 : Wx.cell? ⟨wo.heap.size, 5, none⟩ = some (.int .i64 p.f4.f1) := cell_row x2 rfl
          have y3 : Wx.cell? ⟨wo.heap.size, 6, none⟩ = some (.bool p.f4.f2) := cell_row x2 rfl
          have y4 : Wx.cell? ⟨wo.heap.size, 7, none⟩ = some (.bool p.f4.f3) := cell_row x2 rfl
          have y5 : Wx.cell? ⟨wo.heap.size, 8, none⟩ = some (.bool p.f4.f4) := cell_row x2 rfl
          have G8 := Lib.hid g8
          have G1 := Lib.hid g1
          have X1 := Lib.hid x1
          have X2 := Lib.hid x2
          have HSX := Lib.hid hSx
          have HR := Lib.hid hR
          have HWX := Lib.hid hWx
          clear g8 g9 g10 g1 g2 x1 x2 hSx hR hWx fx hJx hi
          gi_wp2
          refine ⟨rfl, HR.out.mono ?_⟩
          rintro e W3 (⟨rfl, O3, hJ3, hS3⟩ | ⟨rfl, O3, hD3, hS3⟩)
          · have z2 := hS3.at X2.out g3
            have z1 := hS3.at X1.out g4
            have q0 : W3.cell? ⟨wo.heap.size, 0, none⟩ = some (.int .i64 p.f0) := cell_row z2 rfl
            have l1 := lt_of_block X1.out
            have l2 := lt_of_block X2.out
            have n3 := hS3.not l2 g3
            have n4 := hS3.not l1 g4
            have Z1 := Lib.hid z1
            have Z2 := Lib.hid z2
            have HJ3 := Lib.hid hJ3
            have HS3 := Lib.hid hS3
            have HPP := HP.out p hpm
            clear hJ3 hS3 z1 z2
            by_cases hk0 : p.f0 = 0
            · have hk0' : (p.f0 == 0) = true := by simp [hk0]
              gi_wp2
              rw [hk0]
              have hz2 := Z2.out
              rw [hk0] at hz2
              refine ⟨⟨_, _, _, _, _, _, _, _, _, _, _, _, _, _, _, _, _, _, _, ?rel, rfl⟩, ?measure⟩
              case rel => exact ⟨pos + 1, kp + dw, fuel, _, O3, rfl, Z1.out, hz2, n3, n4, by omega, .inl (by omega), by omega, by
                have h := G8.out; rw [if_pos hk0, hk0] at h; rw [List.append_assoc]; exact h, HJ3.out, HSX.out.trans HS3.out⟩
              case measure => rw [iterPos_of Z1.out, iterPos_of G1.out]; omega
            · have hk0' : (p.f0 == 0) = false := by simp [hk0]
              gi_wp2
              go_roundw
              case rel => exact ⟨pos, kp + dw, fuel, _, O3, rfl, Z1.out, Z2.out, n3, n4, by omega, .inl (by omega), by omega, by
                have h := G8.out; rw [if_neg hk0] at h; rw [List.append_assoc]; exact h, HJ3.out, HSX.out.trans HS3.out⟩
              case measure => rw [iterPos_of Z1.out, iterPos_of G1.out]; omega
          · gi_wp2
            refine bodyPost_ret (results_none rfl _ _ _) rfl ?_
            exact ⟨⟨_, rfl⟩, O3, HSX.out.trans hS3, .inr ⟨_, hi', hD3⟩⟩
        · have hnx : ∀ ty, (Instr.next (.pointer (some ⟨wo.heap.size + 1, 0, none⟩)) true ty).run Tryd.prog wr = _ := fun ty => Lib.run_next_end_at wr (wo.heap.size + 1) p.f3 kp ty g1 hp
          have G10 := Lib.hid g10
          have G9 := Lib.hid g9
          have G8 := Lib.hid g8
          clear g8 g9 g10 g1 g2
          gi_wp2
          refine ⟨⟨k + 1, O1, by simp, by omega, ?_, G10.out⟩, by simp [intOf]; omega⟩
          have h8 := G8.out
          rw [runesFrom_end _ _ _ hp, charsFrom, List.append_nil] at h8
          rw [← h8]
          exact G9.out
    · have hkl' : k = l.length := by omega
      have HJK := Lib.hid hJk
      have HS := Lib.hid hS
      clear hJk hS hbk
      gi_wp2
      go_end0
      exact ⟨⟨_, rfl⟩, O, HS.out, .inl (by rw [HIT.out]; have := HJK.out; rw [hkl', List.take_length] at this; exact this)⟩
end Go.Proofs.YtppjgofjjcdcdaaDoor

/- copy(dst, src) into a block that is known whole, for elements of any number of cells. -/
namespace Go.Proofs.YtppjgofjjcdcdaaDoor
open Go.RowKit
variable {P : Program}
theorem run_copy_gen (w : World) (dT sT ty elem : TypeId) (sz g o dLen dCap : Nat) (a : Addr) (sLen sCap : Nat) (cur : Array Value) (t : TypeId) (cs : List Value)
    (hu : P.underlying dT = some (.slice elem)) (hs : (P.info? elem).map (·.size) = some sz)
    (hg : w.heap[g]? = some (.cells cur t (0, 0))) (hn : cs.length = Nat.min sLen dLen * sz)
    (hsrc : ∀ j v, cs[j]? = some v → w.cell? (a.add j) = some v) (hfit : o + cs.length ≤ cur.size) (h1 : ∀ v ∈ cs, v.oneCell' = true) :
    (Builtin.copy_ #[dT, sT] ty #[.slice (some ⟨g, o, none⟩) dLen dCap, .slice (some a) sLen sCap]).run P w =
      .ok (goInt (Nat.min sLen dLen)) (w.setRow g (cur.toList.take o ++ cs ++ cur.toList.drop (o + cs.length)).toArray) := by
  have hl := run_loadCells_list (P := P) w a cs hsrc
  have hst := run_storeCells_at P g o t cs 0 cur w hg (by simpa using hfit) h1
  cases hq : P.info? elem with
  | none => simp [hq] at hs
  | some i =>
    have hi : i.size = sz := by simpa [hq] using hs
    simp [Builtin.copy_, run_underlying hu, Builtin.lenOf, Builtin.firstCells, sizeOf, typeInfo, hq, hi, ← hn, hl, hst]
theorem wpList_copy_gen {w : World} {ops : Array Oper} {rest : List Oper} {o : Oper} {a : Act} {Q : Exit → Act → World → Prop} (hgd : o.guard = none) (d s : Operand) (dT sT : TypeId)
    (ho : o.op = .call { callee := .builtin .copy, args := #[d, s], argTypes := #[dT, sT] }) (elem : TypeId) (sz : Nat) (hu : P.underlying dT = some (.slice elem)) (hsz : (P.info? elem).map (·.size) = some sz)
    (g off dLen dCap : Nat) (ad : Addr) (sLen sCap : Nat) (hd : a.eval d = .slice (some ⟨g, off, none⟩) dLen dCap) (hs : a.eval s = .slice (some ad) sLen sCap)
    (cur : Array Value) (t : TypeId) (hg : w.heap[g]? = some (.cells cur t (0, 0))) (cs : List Value) (hn : cs.length = Nat.min sLen dLen * sz)
    (hsrc : ∀ j v, cs[j]? = some v → w.cell? (ad.add j) = some v) (hfit : off + cs.length ≤ cur.size) (h1 : ∀ v ∈ cs, v.oneCell' = true)
    (h : wpList P ops Q rest (a.put o.dst (goInt (Nat.min sLen dLen))) (w.setRow g (cur.toList.take off ++ cs ++ cur.toList.drop (off + cs.length)).toArray)) : wpList P ops Q (o :: rest) a w := by
  refine wpList_plain hgd fun K hK => ?_
  have hrun := run_copy_gen (P := P) w dT sT o.type elem sz g off dLen dCap ad sLen sCap cur t cs hu hsz hg hn hsrc hfit h1
  unfold Oper.wp
  simp only [execOp, ho, resolve, invoke, builtin, Sem.run_bind, Sem.run_pure, Result.andThen_ok, List.map_toArray, List.map_cons, List.map_nil, hd, hs]
  simp only [hrun, Result.andThen_ok, Oper.upon, pure, Sem.run]
  exact hK _ _ h
theorem step_copy_gen {w : World} {ops : Array Oper} {o : Oper} {a : Act} {K : Act → World → Prop} {Q : Exit → Act → World → Prop} {E : Prop} (hgd : o.guard = none) (d s : Operand) (dT sT : TypeId)
    (ho : o.op = .call { callee := .builtin .copy, args := #[d, s], argTypes := #[dT, sT] }) (elem : TypeId) (sz : Nat) (hu : P.underlying dT = some (.slice elem)) (hsz : (P.info? elem).map (·.size) = some sz)
    (g off dLen dCap : Nat) (ad : Addr) (sLen sCap : Nat) (hd : a.eval d = .slice (some ⟨g, off, none⟩) dLen dCap) (hs : a.eval s = .slice (some ad) sLen sCap)
    (cur : Array Value) (t : TypeId) (hg : w.heap[g]? = some (.cells cur t (0, 0))) (cs : List Value) (hn : cs.length = Nat.min sLen dLen * sz)
    (hsrc : ∀ j v, cs[j]? = some v → w.cell? (ad.add j) = some v) (hfit : off + cs.length ≤ cur.size) (h1 : ∀ v ∈ cs, v.oneCell' = true)
    (h : K (a.put o.dst (goInt (Nat.min sLen dLen))) (w.setRow g (cur.toList.take off ++ cs ++ cur.toList.drop (off + cs.length)).toArray)) :
    if Region.wanted o (yielded ops a.tmps) = true then Oper.wp P o a w K Q else E := by
  have hw : Region.wanted o (yielded ops a.tmps) = true := by simp [Region.wanted, hgd]
  rw [if_pos hw]
  have hrun := run_copy_gen (P := P) w dT sT o.type elem sz g off dLen dCap ad sLen sCap cur t cs hu hsz hg hn hsrc hfit h1
  unfold Oper.wp
  simp only [execOp, ho, resolve, invoke, builtin, Sem.run_bind, Sem.run_pure, Result.andThen_ok, List.map_toArray, List.map_cons, List.map_nil, hd, hs]
  simp only [hrun, Result.andThen_ok, Oper.upon, pure, Sem.run]
  exact h
end Go.Proofs.YtppjgofjjcdcdaaDoor

/- slices.Repeat of one element, at cells and at ints. -/
namespace Go.Proofs.YtppjgofjjcdcdaaDoor
open PLayoutRows
open Go.RowKit
def rep (m : Nat) (ev : List Value) : List Value := (List.replicate m ev).flatten
theorem rep_len (m : Nat) (ev : List Value) : (rep m ev).length = m * ev.length := by simp [rep]
theorem rep_add (m n : Nat) (ev : List Value) : rep m ev ++ rep n ev = rep (m + n) ev := by simp [rep, ← List.replicate_append_replicate]
theorem rep_pre {m n : Nat} (h : m ≤ n) (ev : List Value) : rep n ev = rep m ev ++ rep (n - m) ev := by rw [rep_add]; congr 1; omega
theorem rep_mem {m : Nat} {ev : List Value} {v : Value} (h : v ∈ rep m ev) : v ∈ ev := by
  simp only [rep, List.mem_flatten, List.mem_replicate] at h
  obtain ⟨l, ⟨_, rfl⟩, hv⟩ := h
  exact hv
/-- The row when n elements are filled. -/
def filled (Z ev : List Value) (n : Nat) : List Value := rep n ev ++ Z.drop (n * ev.length)
theorem filled_step (Z ev : List Value) (n m : Nat) :
    (filled Z ev n).take (n * ev.length) ++ rep m ev ++ (filled Z ev n).drop (n * ev.length + (rep m ev).length) = filled Z ev (n + m) := by
  have e1 : (filled Z ev n).take (n * ev.length) = rep n ev := by
    unfold filled; rw [← rep_len n ev]; exact List.take_left
  have e2 : (filled Z ev n).drop (n * ev.length + (rep m ev).length) = Z.drop ((n + m) * ev.length) := by
    unfold filled
    rw [← rep_len n ev, List.drop_length_add_append, List.drop_drop, rep_len, rep_len, ← Nat.add_mul]
  rw [e1, e2, rep_add]
  rfl
theorem filled_len (Z ev : List Value) (n N : Nat) (hZ : Z.length = N * ev.length) (h : n ≤ N) : (filled Z ev n).length = N * ev.length := by
  unfold filled
  rw [List.length_append, rep_len, List.length_drop, hZ, ← Nat.add_sub_assoc (Nat.mul_le_mul_right _ h)]
  omega
theorem filled_src {W : World} {g n m : Nat} {Z ev : List Value} {T : TypeId} (hg : W.heap[g]? = some (.cells (filled Z ev n).toArray T (0, 0))) (hm : m ≤ n) (j : Nat) (v : Value) (h : (rep m ev)[j]? = some v) :
    W.cell? ((⟨g, 0, none⟩ : Addr).add j) = some v := by
  have e : (⟨g, 0, none⟩ : Addr).add j = ⟨g, j, none⟩ := by unfold Addr.add; split <;> simp_all
  rw [e]
  refine cell_row hg ?_
  rw [List.getElem?_toArray]
  unfold filled
  rw [rep_pre hm ev, List.append_assoc, List.getElem?_append_left (List.getElem?_eq_some_iff.1 h).1]
  exact h
theorem made_len (z : Array Value) (n : Nat) : (madeCells z n).toList.length = n := by simp [madeCells]
theorem info78c : (Tryd.prog.info? 78).map (·.size) = some 6 := by kernel_rfl
theorem setRow_at {w : World} {g : Nat} {old cs : Array Value} {t : TypeId} {fr : Nat × Nat} (hg : w.heap[g]? = some (.cells old t fr)) : (w.setRow g cs).heap[g]? = some (.cells cs t fr) := setRow_heap w g old cs t fr hg
theorem Fr.setRow {S : Nat → Prop} {A B : World} (h : Fr S A B) (g : Nat) (cs : Array Value) (hg : g < A.heap.size → S g) : Fr S A (B.setRow g cs) :=
  ⟨h.os, h.tape, h.output, by simpa using h.size, fun b hb hn => by
    rw [setRow_other _ _ _ _ (by rintro rfl; exact hn (hg hb))]; exact h.block b hb hn⟩
theorem mul_one_any (n : Nat) (hn : n ≤ 1000000) (W : World) : Calls Tryd.prog 63 #[.int .u64 1, .int .u64 (n : Int)] W fun e w' => e = .returned (.tuple #[.int .u64 0, .int .u64 (n : Int)]) ∧ W = w' := by
  have hlt : n < 18446744073709551616 := Nat.lt_of_le_of_lt hn (by decide)
  refine (Tryd.bits_Mul 1 n (by decide) hlt W).mono ?_
  rintro e w' ⟨rfl, rfl⟩
  rw [Nat.one_mul, Nat.div_eq_of_lt hlt, Nat.mod_eq_of_lt hlt]
  exact ⟨rfl, rfl⟩
set_option maxRecDepth 100000 in
set_option maxHeartbeats 1000000 in
theorem repC_any (b0 n : Nat) (ev : List Value) (w : World) (hb : w.heap[b0]? = some (.cells ev.toArray 78 (0, 0))) (hev : ev.length = 6) (h1 : ∀ v ∈ ev, v.oneCell' = true) (hn0 : 1 ≤ n) (hn : n ≤ 1000000) :
    Calls Tryd.prog 47 #[.slice (some ⟨b0, 0, none⟩) 1 1, .int .i64 n] w fun e w' => e = .returned (.slice (some ⟨w.heap.size, 0, none⟩) n n) ∧
      w'.heap[w.heap.size]? = some (.cells (rep n ev).toArray 78 (0, 0)) ∧ Fr Non w w' := by
  obtain ⟨i0, hi, hz0, hz1, hz2⟩ := info_parts info78
  obtain ⟨Z, hZ⟩ : ∃ Z, (madeCells #[.int .i64 0, .int .i64 0, .int .i64 0, .bool false, .bool false, .bool false] (n * 6)).toList = Z := ⟨_, rfl⟩
  have hmk : ∀ W : World, (Instr.makeSlice 36 (.int .i64 (n : Int)) (.int .i64 (n : Int))).run Tryd.prog W = .ok (.slice (some ⟨W.heap.size, 0, none⟩) n n) (W.alloc (.cells Z.toArray 78)) := fun W => by
    have := run_make (P := Tryd.prog) W 36 78 i0 _ Tryd.underlying36 hi hz0 .i64 .i64 n n (by omega) (by omega) (by rw [hz2]; omega) (by omega)
    simp only [Int.toNat_natCast] at this
    rw [this, ← hZ, hz1]
    simp [Value.cells]
  have hZl : Z.length = n * ev.length := by rw [← hZ, made_len, hev]
  have hmul := mul_one_any n hn
  have HM := Lib.hid hmul
  have HZ := Lib.hid hZl
  have HB := Lib.hid hb
  have H1 := Lib.hid h1
  have HE := Lib.hid hev
  clear hmul hZl hb hZ h1 hi hz0 hz1 hz2 hev
  have d1 : decide ((n : Int) < 0) = false := by simp
  have d2 : decide ((n : Int) > 9223372036854775807) = false := by simp; omega
  go_enter Tryd.func47, Tryd.ntmps47
  have hsrc0 : ∀ j v, (rep 1 ev)[j]? = some v → (w.alloc (.cells Z.toArray 78)).cell? ((⟨b0, 0, none⟩ : Addr).add j) = some v := fun j v h => by
    have e : (⟨b0, 0, none⟩ : Addr).add j = ⟨b0, j, none⟩ := by unfold Addr.add; split <;> simp_all
    rw [e]
    exact cell_row (hd_alloc HB.out) (by simpa [rep] using h)
  have hmin : Nat.min 1 n = 1 := Nat.min_eq_left hn0
  have hl1 : (rep 1 ev).length = Nat.min 1 n * 6 := by rw [rep_len, HE.out, hmin]
  have hfit1 : 0 + (rep 1 ev).length ≤ Z.toArray.size := by rw [rep_len, HE.out, List.size_toArray, HZ.out, HE.out]; omega
  have hone1 : ∀ v ∈ rep 1 ev, v.oneCell' = true := fun v h => H1.out v (rep_mem h)
  have HS0 := Lib.hid hsrc0
  have HL1 := Lib.hid hl1
  have HF1 := Lib.hid hfit1
  have HO1 := Lib.hid hone1
  have HMIN := Lib.hid hmin
  clear hsrc0 hl1 hfit1 hone1 hmin
  go_wp2_with (first | (go_at_call 63; refine (HM.out _).mono ?_; rintro e w' ⟨rfl, rfl⟩) | (with_reducible refine wpList_copy_gen rfl (.tmp 31) (.tmp 32) 36 36 rfl 78 6 Tryd.underlying36 info78c w.heap.size 0 n n ⟨b0, 0, none⟩ 1 1 rfl rfl Z.toArray 78 (heap_alloc_new _ _) (rep 1 ev) HL1.out HS0.out HF1.out HO1.out ?_) | fail)
  go_loopw [8] (fun i wr => ∃ k : Nat, 1 ≤ k ∧ k ≤ n ∧ i = .int .i64 k ∧ wr.heap[w.heap.size]? = some (.cells (filled Z ev k).toArray 78 (0, 0)) ∧ Fr Non w wr) (fun i _ => n - (intOf i).toNat)
  case atStart =>
    refine ⟨1, by omega, hn0, rfl, ?_, ((Fr.refl _ _).alloc _).setRow _ _ (fun h => absurd h (Nat.lt_irrefl _))⟩
    rw [setRow_at (heap_alloc_new _ _)]
    simp [filled, rep]
  case round =>
    obtain ⟨k, hk1, hk, rfl, hg, hfr⟩ := hrel
    clear HS0 HL1 HF1 HO1 HMIN hmk
    by_cases hlt : k < n
    · obtain ⟨m, hm⟩ : ∃ m, Nat.min k (n - k) = m := ⟨_, rfl⟩
      have hmk : m ≤ k := by rw [← hm]; exact Nat.min_le_left ..
      have hmn : k + m ≤ n := by have : m ≤ n - k := by { rw [← hm]; exact Nat.min_le_right .. }; omega
      have hm1 : 1 ≤ m := by rw [← hm]; exact Nat.le_min.2 ⟨hk1, by omega⟩
      have Hm := Lib.hid hm
      have hl : (rep m ev).length = Nat.min k (n - k) * 6 := by rw [rep_len, HE.out, hm]
      have hsrc : ∀ j v, (rep m ev)[j]? = some v → wr.drew.cell? ((⟨w.heap.size, 0, none⟩ : Addr).add j) = some v := fun j v h => filled_src (hd_drew hg) hmk j v h
      have hfit : k * 6 + (rep m ev).length ≤ (filled Z ev k).toArray.size := by
        rw [List.size_toArray, filled_len Z ev k n HZ.out hk, rep_len, HE.out, ← Nat.add_mul]
        exact Nat.mul_le_mul_right _ hmn
      have hone : ∀ v ∈ rep m ev, v.oneCell' = true := fun v h => H1.out v (rep_mem h)
      have HL1 := Lib.hid hl
      have HS1 := Lib.hid hsrc
      have HF1 := Lib.hid hfit
      have HO1 := Lib.hid hone
      have HG := Lib.hid hg
      have HFR := Lib.hid hfr
      clear hl hsrc hfit hone hg hfr hm
      have hne : ¬ n = k := by omega
      go_wp2
      go_region_law (refine step_copy_gen rfl (.tmp 41) (.tmp 44) 36 36 rfl 78 6 Tryd.underlying36 info78c w.heap.size (k * 6) (n - k) (n - k) ⟨w.heap.size, 0, none⟩ k n (by simp [Act.eval, Act.put]) (by simp [Act.eval, Act.put]) (filled Z ev k).toArray 78 (hd_drew HG.out) (rep m ev) HL1.out HS1.out HF1.out HO1.out ?_)
      go_simp
      go_wp2
      have e1 : IntKind.i64.wrap ((k : Int) + ((Nat.min k (n - k) : Nat) : Int)) = ((k + m : Nat) : Int) := by rw [Hm.out, IntKind.wrap_i64]; omega
      have hkl : k * 6 = k * ev.length := by rw [HE.out]
      go_roundw
      case rel =>
        refine ⟨k + m, by omega, hmn, by first | exact congrArg _ e1 | rw [e1] | (simp; done), ?_, (HFR.out.drew).setRow _ _ (fun h => absurd h (Nat.lt_irrefl _))⟩
        rw [setRow_at (hd_drew HG.out), hkl, ← List.append_assoc, filled_step]
      case measure => simp only [intOf] at *; first | (rw [e1]; omega) | omega
    · obtain rfl : k = n := by omega
      have HG := Lib.hid hg
      have HFR := Lib.hid hfr
      clear hg hfr
      go_wp2
      go_ret
      refine ⟨rfl, ?_, HFR.out⟩
      rw [HG.out]
      unfold filled
      rw [List.drop_of_length_le (by rw [HZ.out]; exact Nat.le_refl _), List.append_nil]
theorem info3c : (Tryd.prog.info? 3).map (·.size) = some 1 := by kernel_rfl
set_option maxRecDepth 100000 in
set_option maxHeartbeats 1000000 in
theorem repI_any (b0 n : Nat) (ev : List Value) (w : World) (hb : w.heap[b0]? = some (.cells ev.toArray 3 (0, 0))) (hev : ev.length = 1) (h1 : ∀ v ∈ ev, v.oneCell' = true) (hn0 : 1 ≤ n) (hn : n ≤ 1000000) :
    Calls Tryd.prog 64 #[.slice (some ⟨b0, 0, none⟩) 1 1, .int .i64 n] w fun e w' => e = .returned (.slice (some ⟨w.heap.size, 0, none⟩) n n) ∧
      w'.heap[w.heap.size]? = some (.cells (rep n ev).toArray 3 (0, 0)) ∧ Fr Non w w' := by
  obtain ⟨i0, hi, hz0, hz1, hz2⟩ := info_parts info3
  obtain ⟨Z, hZ⟩ : ∃ Z, (madeCells #[.int .i64 0] (n * 1)).toList = Z := ⟨_, rfl⟩
  have hmk : ∀ W : World, (Instr.makeSlice 37 (.int .i64 (n : Int)) (.int .i64 (n : Int))).run Tryd.prog W = .ok (.slice (some ⟨W.heap.size, 0, none⟩) n n) (W.alloc (.cells Z.toArray 3)) := fun W => by
    have := run_make (P := Tryd.prog) W 37 3 i0 _ Tryd.underlying37 hi hz0 .i64 .i64 n n (by omega) (by omega) (by rw [hz2]; omega) (by omega)
    simp only [Int.toNat_natCast] at this
    rw [this, ← hZ, hz1]
    simp [Value.cells]
  have hZl : Z.length = n * ev.length := by rw [← hZ, made_len, hev]
  have hmul := mul_one_any n hn
  have HM := Lib.hid hmul
  have HZ := Lib.hid hZl
  have HB := Lib.hid hb
  have H1 := Lib.hid h1
  have HE := Lib.hid hev
  clear hmul hZl hb hZ h1 hi hz0 hz1 hz2 hev
  have d1 : decide ((n : Int) < 0) = false := by simp
  have d2 : decide ((n : Int) > 9223372036854775807) = false := by simp; omega
  go_enter Tryd.func64, Tryd.ntmps64
  have hsrc0 : ∀ j v, (rep 1 ev)[j]? = some v → (w.alloc (.cells Z.toArray 3)).cell? ((⟨b0, 0, none⟩ : Addr).add j) = some v := fun j v h => by
    have e : (⟨b0, 0, none⟩ : Addr).add j = ⟨b0, j, none⟩ := by unfold Addr.add; split <;> simp_all
    rw [e]
    exact cell_row (hd_alloc HB.out) (by simpa [rep] using h)
  have hmin : Nat.min 1 n = 1 := Nat.min_eq_left hn0
  have hl1 : (rep 1 ev).length = Nat.min 1 n * 1 := by rw [rep_len, HE.out, hmin]
  have hfit1 : 0 + (rep 1 ev).length ≤ Z.toArray.size := by rw [rep_len, HE.out, List.size_toArray, HZ.out, HE.out]; omega
  have hone1 : ∀ v ∈ rep 1 ev, v.oneCell' = true := fun v h => H1.out v (rep_mem h)
  have HS0 := Lib.hid hsrc0
  have HL1 := Lib.hid hl1
  have HF1 := Lib.hid hfit1
  have HO1 := Lib.hid hone1
  have HMIN := Lib.hid hmin
  clear hsrc0 hl1 hfit1 hone1 hmin
  go_wp2_with (first | (go_at_call 63; refine (HM.out _).mono ?_; rintro e w' ⟨rfl, rfl⟩) | (with_reducible refine wpList_copy_gen rfl (.tmp 31) (.tmp 32) 37 37 rfl 3 1 Tryd.underlying37 info3c w.heap.size 0 n n ⟨b0, 0, none⟩ 1 1 rfl rfl Z.toArray 3 (heap_alloc_new _ _) (rep 1 ev) HL1.out HS0.out HF1.out HO1.out ?_) | fail)
  go_loopw [8] (fun i wr => ∃ k : Nat, 1 ≤ k ∧ k ≤ n ∧ i = .int .i64 k ∧ wr.heap[w.heap.size]? = some (.cells (filled Z ev k).toArray 3 (0, 0)) ∧ Fr Non w wr) (fun i _ => n - (intOf i).toNat)
  case atStart =>
    refine ⟨1, by omega, hn0, rfl, ?_, ((Fr.refl _ _).alloc _).setRow _ _ (fun h => absurd h (Nat.lt_irrefl _))⟩
    rw [setRow_at (heap_alloc_new _ _)]
    simp [filled, rep]
  case round =>
    obtain ⟨k, hk1, hk, rfl, hg, hfr⟩ := hrel
    clear HS0 HL1 HF1 HO1 HMIN hmk
    by_cases hlt : k < n
    · obtain ⟨m, hm⟩ : ∃ m, Nat.min k (n - k) = m := ⟨_, rfl⟩
      have hmk : m ≤ k := by rw [← hm]; exact Nat.min_le_left ..
      have hmn : k + m ≤ n := by have : m ≤ n - k := by { rw [← hm]; exact Nat.min_le_right .. }; omega
      have hm1 : 1 ≤ m := by rw [← hm]; exact Nat.le_min.2 ⟨hk1, by omega⟩
      have Hm := Lib.hid hm
      have hl : (rep m ev).length = Nat.min k (n - k) * 1 := by rw [rep_len, HE.out, hm]
      have hsrc : ∀ j v, (rep m ev)[j]? = some v → wr.drew.cell? ((⟨w.heap.size, 0, none⟩ : Addr).add j) = some v := fun j v h => filled_src (hd_drew hg) hmk j v h
      have hfit : k * 1 + (rep m ev).length ≤ (filled Z ev k).toArray.size := by
        rw [List.size_toArray, filled_len Z ev k n HZ.out hk, rep_len, HE.out, ← Nat.add_mul]
        exact Nat.mul_le_mul_right _ hmn
      have hone : ∀ v ∈ rep m ev, v.oneCell' = true := fun v h => H1.out v (rep_mem h)
      have HL1 := Lib.hid hl
      have HS1 := Lib.hid hsrc
      have HF1 := Lib.hid hfit
      have HO1 := Lib.hid hone
      have HG := Lib.hid hg
      have HFR := Lib.hid hfr
      clear hl hsrc hfit hone hg hfr hm
      have hne : ¬ n = k := by omega
      go_wp2
      go_region_law (refine step_copy_gen rfl (.tmp 41) (.tmp 44) 37 37 rfl 3 1 Tryd.underlying37 info3c w.heap.size (k * 1) (n - k) (n - k) ⟨w.heap.size, 0, none⟩ k n (by simp [Act.eval, Act.put]) (by simp [Act.eval, Act.put]) (filled Z ev k).toArray 3 (hd_drew HG.out) (rep m ev) HL1.out HS1.out HF1.out HO1.out ?_)
      go_simp
      go_wp2
      have e1 : IntKind.i64.wrap ((k : Int) + ((Nat.min k (n - k) : Nat) : Int)) = ((k + m : Nat) : Int) := by rw [Hm.out, IntKind.wrap_i64]; omega
      go_roundw
      case rel =>
        refine ⟨k + m, by omega, hmn, by first | exact congrArg _ e1 | rw [e1] | (simp; done), ?_, (HFR.out.drew).setRow _ _ (fun h => absurd h (Nat.lt_irrefl _))⟩
        rw [setRow_at (hd_drew HG.out), ← List.append_assoc]
        have fs := filled_step Z ev k m
        rw [HE.out, Nat.mul_one] at fs
        rw [fs]
      case measure => simp only [intOf] at *; first | (rw [e1]; omega) | omega
    · obtain rfl : k = n := by omega
      have HG := Lib.hid hg
      have HFR := Lib.hid hfr
      clear hg hfr
      go_wp2
      go_ret
      refine ⟨rfl, ?_, HFR.out⟩
      rw [HG.out]
      unfold filled
      rw [List.drop_of_length_le (by rw [HZ.out]; exact Nat.le_refl _), List.append_nil]
end Go.Proofs.YtppjgofjjcdcdaaDoor

/- layout.Blank and layout.fill. -/
namespace Go.Proofs.YtppjgofjjcdcdaaDoor
open PLayoutRows
open Go.RowKit
def blankC : Cell := ⟨32, ⟨0, 0, false, false, false⟩⟩
def blankP (n : Nat) : List Cell := List.replicate n blankC
theorem rep_flat (n : Nat) (c : Cell) : rep n (cellV c) = flat (List.replicate n c) := by
  unfold rep flat
  induction n with
  | zero => rfl
  | succ n ih => simp only [List.replicate_succ, List.flatten_cons, List.flatMap_cons, ih]
theorem rep_ints (n : Nat) (v : Int) : rep n [.int .i64 v] = (List.replicate n v).map (Value.int .i64) := by
  induction n with
  | zero => rfl
  | succ n ih => simp only [rep, List.replicate_succ, List.flatten_cons, List.map_cons] at *; rw [ih]; rfl
theorem blank_no (n : Int) (w : World) (h : n < 1) : Calls Tryd.prog 25 #[.int .i64 n] w fun e w' => e = .returned (.slice none 0 0) ∧ w = w' := by
  go_enter Tryd.func25, Tryd.ntmps25
  go_wp2
  go_ret
  exact ⟨rfl, rfl⟩
set_option maxHeartbeats 400000 in
theorem blank_any (n : Nat) (w : World) (h0 : 1 ≤ n) (hn : n ≤ 1000000) : Calls Tryd.prog 25 #[.int .i64 n] w fun e w' => ∃ g, e = .returned (.slice (some ⟨g, 0, none⟩) n n) ∧ w.heap.size ≤ g ∧ w'.heap[g]? = some (cellB (blankP n)) ∧ Fr Non w w' := by
  have HR : ∀ W : World, ∀ ev : List Value, W.heap[w.heap.size]? = some (.cells ev.toArray 78 (0, 0)) → ev = cellV blankC → Calls Tryd.prog 47 #[.slice (some ⟨w.heap.size, 0, none⟩) 1 1, .int .i64 n] W fun e w' => e = .returned (.slice (some ⟨W.heap.size, 0, none⟩) n n) ∧
      w'.heap[W.heap.size]? = some (cellB (blankP n)) ∧ Fr Non W w' := fun W ev hW he => (repC_any w.heap.size n ev W hW (by rw [he]; rfl) (by rw [he]; intro v hv; simp [cellV] at hv; rcases hv with rfl | rfl | rfl | rfl | rfl | rfl <;> rfl) h0 hn).mono (by
    rintro e w' ⟨rfl, h1, h2⟩
    refine ⟨rfl, ?_, h2⟩
    rw [h1, he, rep_flat]
    rfl)
  have HH := Lib.hid HR
  clear HR
  have d1 : decide ((n : Int) < 1) = false := by simp; omega
  go_enter Tryd.func25, Tryd.ntmps25
  go_wp2_with fail
  refine (HH.out _ _ (heap_alloc_new _ _) rfl).mono ?_
  rintro e W ⟨rfl, h1, h2⟩
  have H1 := Lib.hid h1
  have H2 := Lib.hid (((Fr.refl Non w).alloc _).trans h2)
  clear h1 h2
  go_wp2
  go_ret
  exact ⟨_, rfl, by simp, by have := H1.out; rwa [World.size_alloc] at this, H2.out⟩
def newFil (n : Nat) : Fil := ⟨blankP n, List.replicate n (-1), 0, 0, false, 0⟩
set_option maxHeartbeats 400000 in
theorem fill_any (n : Nat) (w : World) (h0 : 1 ≤ n) (hn : n ≤ 1000000) : Calls Tryd.prog 51 #[.int .i64 n] w fun e w' => ∃ p g q, e = .returned (.pointer (some ⟨p, 0, none⟩)) ∧
    FilAt w' p g q (newFil n) ∧ w.heap.size ≤ p ∧ w.heap.size ≤ g ∧ w.heap.size ≤ q ∧ g ≠ p ∧ g ≠ q ∧ p ≠ q ∧ Fr Non w w' := by
  have HB := Lib.hid (blank_any n w h0 hn)
  have HR : ∀ W : World, ∀ b0, W.heap[b0]? = some (.cells #[.int .i64 (-1)] 3 (0, 0)) → Calls Tryd.prog 64 #[.slice (some ⟨b0, 0, none⟩) 1 1, .int .i64 n] W fun e w' => e = .returned (.slice (some ⟨W.heap.size, 0, none⟩) n n) ∧
      w'.heap[W.heap.size]? = some (posB (List.replicate n (-1))) ∧ Fr Non W w' := fun W b0 hW => (repI_any b0 n [.int .i64 (-1)] W hW rfl (by intro v hv; simp at hv; subst hv; rfl) h0 hn).mono (by
    rintro e w' ⟨rfl, h1, h2⟩
    refine ⟨rfl, ?_, h2⟩
    rw [h1, rep_ints]
    rfl)
  have HH := Lib.hid HR
  clear HR
  go_enter Tryd.func51, Tryd.ntmps51
  go_wp2_with fail
  refine HB.out.mono ?_
  rintro e W ⟨g, rfl, hg, h1, h2⟩
  have H1 := Lib.hid h1
  have H2 := Lib.hid h2
  have HG := Lib.hid hg
  clear h1 h2 hg
  go_wp2_with fail
  refine (HH.out _ _ (heap_alloc_new _ _)).mono ?_
  rintro e W2 ⟨rfl, h3, h4⟩
  have H3 := Lib.hid h3
  have H4 := Lib.hid h4
  clear h3 h4
  go_wp2
  go_ret
  have l1 := lt_of_block H1.out
  have l3 := lt_of_block H3.out
  have s2 := H2.out.size
  have s4 := H4.out.size
  have hs : (W.alloc (.cells #[.int .i64 (-1)] 3)).heap.size = W.heap.size + 1 := World.size_alloc ..
  have h3 := H3.out
  have f4 := H4.out
  rw [hs] at h3 l3 s4
  refine ⟨W2.heap.size, g, W.heap.size + 1, rfl, ⟨?_, hd_alloc (f4.at (hd_alloc H1.out) id), hd_alloc h3⟩, by omega, HG.out, by omega, by omega, by omega, by omega, ((H2.out.alloc _).trans f4).alloc _⟩
  rw [heap_alloc_new]
  simp [filB, newFil, blankP]
end Go.Proofs.YtppjgofjjcdcdaaDoor
