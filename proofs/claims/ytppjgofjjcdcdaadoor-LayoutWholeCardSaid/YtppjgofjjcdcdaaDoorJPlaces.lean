/- LayoutPlaces holds: whatever the input, the call returns true and the arguments read as they did (the two tables of unicode/utf8 as the text lays them); tied to the program's text. -/
import Derived.Test.YtppjgofjjcdcdaaDoorJF
import Derived.Test.YtppjgofjjcdcdaaDoorJG
import Derived.Test.YtppjgofjjcdcdaaDoorRows
import Derived.Test.YtppjgofjjcdcdaaDoorTie
import Derived.Test.YtppjgofjjcdcdaaDoorCards
import Derived.ProofKit
import Derived.OpenShut
import Derived.LaidMore
import Derived.Lay
import Derived.SevenTiedAt
import Derived.Carry
import Derived.ChangeOld
import Derived.SizedLaws
set_option linter.unusedVariables false
set_option linter.unusedSimpArgs false
/- The plain law of LayoutPlaces: positions never fall. -/
namespace Go.Proofs.YtppjgofjjcdcdaaDoor
open PLayoutRows
open Go.RowKit Go.Proofs.YtppjgofjjcdcdaaDoorW.PrintWords
/-- A list that never falls, from a up to b. -/
def Up : Int → List Int → Int → Prop
  | a, [], b => a ≤ b
  | a, x :: xs, b => a ≤ x ∧ Up x xs b
theorem Up.le {a b : Int} : ∀ {xs : List Int}, Up a xs b → a ≤ b
  | [], h => h
  | _ :: _, h => Int.le_trans h.1 h.2.le
theorem Up.lo {a a' b : Int} (k : a' ≤ a) : ∀ {xs : List Int}, Up a xs b → Up a' xs b
  | [], h => Int.le_trans k h
  | _ :: _, h => ⟨Int.le_trans k h.1, h.2⟩
theorem Up.hi {b b' : Int} (k : b ≤ b') : ∀ {xs : List Int} {a : Int}, Up a xs b → Up a xs b'
  | [], _, h => Int.le_trans h k
  | _ :: _, _, h => ⟨h.1, h.2.hi k⟩
theorem Up.append {m b : Int} {ys : List Int} (k : Up m ys b) : ∀ {xs : List Int} {a : Int}, Up a xs m → Up a (xs ++ ys) b
  | [], _, h => k.lo h
  | _ :: _, _, h => ⟨h.1, Up.append k h.2⟩
theorem Up.app {b : Int} {ys : List Int} : ∀ {xs : List Int} {a : Int}, Up a (xs ++ ys) b → ∃ m, Up a xs m ∧ Up m ys b
  | [], a, h => ⟨a, Int.le_refl _, h⟩
  | x :: xs, _, h => by
    obtain ⟨m, h1, h2⟩ := Up.app h.2
    exact ⟨m, ⟨h.1, h1⟩, h2⟩
theorem Up.rep (p : Int) : ∀ n, Up p (List.replicate n p) p
  | 0 => Int.le_refl _
  | n + 1 => ⟨Int.le_refl _, Up.rep p n⟩
theorem Up.same {x a b : Int} (h : a ≤ x) (k : x ≤ b) : ∀ {xs : List Int}, (∀ y ∈ xs, y = x) → Up a xs b
  | [], _ => Int.le_trans h k
  | y :: ys, e => by
    have := e y (by simp)
    subst this
    exact ⟨h, Up.same (Int.le_refl _) k fun z hz => e z (by simp [hz])⟩
theorem runesFrom_count (s : ByteArray) : ∀ n k, (runesFrom s n k).length = Lib.runeCountFrom s n k
  | 0, _ => rfl
  | n + 1, k => by
    unfold runesFrom Lib.runeCountFrom
    by_cases h : k < s.size
    · rw [if_pos h, if_pos h, List.length_cons, runesFrom_count s n]; omega
    · rw [if_neg h, if_neg h]; rfl
theorem charsFrom_up0 (look : Look) : ∀ (cs : List Int) (pos : Int), Up pos ((charsFrom 0 look pos cs).map (·.pos)) (pos + cs.length)
  | [], pos => by show pos ≤ pos + ((0 : Nat) : Int); omega
  | c :: cs, pos => by
    have ih := charsFrom_up0 look cs (pos + 1)
    have e : (charsFrom 0 look pos (c :: cs)).map (·.pos) = pos :: (charsFrom 0 look (pos + 1) cs).map (·.pos) := by simp [charsFrom]
    rw [e]
    refine ⟨Int.le_refl _, (ih.lo (by omega)).hi ?_⟩
    rw [List.length_cons]; omega
theorem charsFrom_upk (kind : Int) (hk : kind ≠ 0) (look : Look) : ∀ (cs : List Int) (pos : Int), ∀ x ∈ (charsFrom kind look pos cs).map (·.pos), x = pos
  | [], pos, x, h => by simp [charsFrom] at h
  | c :: cs, pos, x, h => by
    simp only [charsFrom, if_neg hk, List.map_cons, List.mem_cons] at h
    rcases h with h | h
    · exact h
    · exact charsFrom_upk kind hk look cs pos x h
theorem partChars_up {p : Part} {from_ to_ a : Int} (h : checkP1 p from_ to_ a = 0) : Up a ((partChars p).map (·.pos)) p.f2 ∧ p.f2 ≤ to_ := by
  unfold checkP1 at h
  split at h
  · cases h
  · split at h
    · cases h
    · split at h
      · cases h
      · split at h
        · cases h
        · split at h
          · cases h
          · rename_i h1 h2 h3 h4
            refine ⟨?_, by omega⟩
            unfold partChars
            by_cases hk : p.f0 = 0
            · rw [hk]
              refine ((charsFrom_up0 p.f4 (runesP p.f3) p.f1).lo (by omega)).hi ?_
              have hc : (runesP p.f3).length = Lib.runeCount p.f3 := runesFrom_count p.f3 p.f3.size 0
              rw [hc]
              omega
            · exact Up.same (x := p.f1) (by omega) (by omega) (charsFrom_upk p.f0 hk p.f4 _ _)
theorem charsL_up (from_ to_ : Int) : ∀ (l : List Part) (a : Int), a ≤ to_ → checkL from_ to_ l a = 0 → Up a ((charsP l).map (·.pos)) to_
  | [], a, ha, _ => ha
  | p :: ps, a, ha, h => by
    unfold checkL at h
    split at h
    · rename_i h1
      obtain ⟨u, k⟩ := partChars_up h1
      have ih := charsL_up from_ to_ ps p.f2 k h
      have e : charsP (p :: ps) = partChars p ++ charsP ps := by simp [charsP]
      rw [e, List.map_append]
      exact Up.append ih u
    · rename_i h1; exact absurd h h1
theorem oneU_pos (tab col : Int) (x : Chr) : ∀ u ∈ (oneU tab col x).1, u.pos = x.pos ∧ (u.feed = false → u.cells ≠ []) ∧ u.cells.length ≤ 2 := by
  intro u hu
  unfold oneU at hu
  split at hu
  · simp at hu; subst hu; exact ⟨rfl, by simp, by simp⟩
  · split at hu
    · have := List.eq_of_mem_replicate hu
      subst this
      exact ⟨rfl, by simp, by simp⟩
    · split at hu
      · simp at hu
      · rename_i h
        simp at hu; subst hu
        exact ⟨rfl, fun _ => h, cellsP_len _ _⟩
theorem units_up (tab : Int) : ∀ (xs : List Chr) (u : List Unt × Int) (a m b : Int), Up a (u.1.map (·.pos)) m → (∀ v ∈ u.1, (v.feed = false → v.cells ≠ []) ∧ v.cells.length ≤ 2) → Up m (xs.map (·.pos)) b →
    Up a ((xs.foldl (fun u x => (u.1 ++ (oneU tab u.2 x).1, (oneU tab u.2 x).2)) u).1.map (·.pos)) b ∧ ∀ v ∈ (xs.foldl (fun u x => (u.1 ++ (oneU tab u.2 x).1, (oneU tab u.2 x).2)) u).1, (v.feed = false → v.cells ≠ []) ∧ v.cells.length ≤ 2
  | [], u, a, m, b, h, hv, k => ⟨h.hi k, hv⟩
  | x :: xs, u, a, m, b, h, hv, k => by
    refine units_up tab xs _ a x.pos b ?_ ?_ k.2
    · show Up a ((u.1 ++ (oneU tab u.2 x).1).map (·.pos)) x.pos
      rw [List.map_append]
      refine Up.append (Up.same (x := x.pos) k.1 (Int.le_refl _) ?_) h
      intro y hy
      obtain ⟨v, hv, rfl⟩ := List.mem_map.1 hy
      exact (oneU_pos tab u.2 x v hv).1
    · intro v hm
      rcases List.mem_append.1 hm with hm | hm
      · exact hv v hm
      · exact (oneU_pos tab u.2 x v hm).2
def posF (p : List Int) : List Int := p.filter (fun x => x != -1)
def seqR (r : Row) : List Int := r.f2 :: posF r.f1
def seqX (x : Fil) : List Int := if x.n = 0 then [] else x.fr :: posF x.pos
/-- A filler's positions: as many as it has cells, then none. -/
structure Shape (x : Fil) (qs : List Int) (k : Nat) : Prop where
  p : x.pos = qs ++ List.replicate k (-1)
  n : qs.length = x.n
  q : ∀ y ∈ qs, y ≠ -1
theorem posF_app (a b : List Int) : posF (a ++ b) = posF a ++ posF b := List.filter_append ..
theorem posF_rep (k : Nat) : posF (List.replicate k (-1)) = [] := by
  unfold posF
  rw [List.filter_eq_nil_iff]
  intro a ha
  rw [List.eq_of_mem_replicate ha]; simp
theorem posF_all {qs : List Int} (h : ∀ y ∈ qs, y ≠ -1) : posF qs = qs := by
  unfold posF
  rw [List.filter_eq_self]
  intro a ha
  simpa using h a ha
theorem Shape.f {x : Fil} {qs : List Int} {k : Nat} (h : Shape x qs k) : posF x.pos = qs := by
  rw [h.p, posF_app, posF_rep, List.append_nil, posF_all h.q]
theorem shape_new (width : Nat) : Shape (newFil width) [] width := ⟨by simp [newFil], rfl, by simp⟩
theorem set_shape (qs : List Int) (k : Nat) (p : Int) : (qs ++ List.replicate (k + 1) (-1)).set qs.length p = (qs ++ [p]) ++ List.replicate k (-1) := by
  rw [List.set_append_right _ _ (Nat.le_refl _), Nat.sub_self, List.replicate_succ]
  simp
theorem puts_shape (p : Int) (hp : p ≠ -1) : ∀ (cs : List Cell) (x : Fil) (qs : List Int) (k : Nat), Shape x qs (cs.length + k) → Shape (x.puts cs p) (qs ++ List.replicate cs.length p) k ∧ (x.puts cs p).fr = x.fr
  | [], x, qs, k, h => by
    refine ⟨⟨?_, ?_, ?_⟩, rfl⟩
    · show x.pos = _
      rw [h.p]; simp
    · show _ = x.n
      rw [← h.n]; simp
    · intro y hy
      exact h.q y (by simpa using hy)
  | c :: cs, x, qs, k, h => by
    have h1 : Shape (x.add1 c p) (qs ++ [p]) (cs.length + k) := by
      refine ⟨?_, ?_, ?_⟩
      · show x.pos.set x.n p = _
        rw [h.p, ← h.n, List.length_cons, show cs.length + 1 + k = (cs.length + k) + 1 by omega, set_shape]
      · show (qs ++ [p]).length = x.n + 1
        rw [List.length_append, h.n]; rfl
      · intro y hy
        rcases List.mem_append.1 hy with hy | hy
        · exact h.q y hy
        · rw [List.mem_singleton] at hy; rw [hy]; exact hp
    obtain ⟨h2, h3⟩ := puts_shape p hp cs (x.add1 c p) (qs ++ [p]) k h1
    refine ⟨?_, h3⟩
    have e : qs ++ [p] ++ List.replicate cs.length p = qs ++ List.replicate (c :: cs).length p := by
      rw [List.append_assoc, List.length_cons, List.replicate_succ]; rfl
    rw [← e]
    exact h2
theorem at0_shape {x : Fil} {qs : List Int} {k : Nat} (h : Shape x qs k) (p : Int) : Shape (x.at0 p) qs k ∧ (x.at0 p).fr = if x.n = 0 then p else x.fr := by
  unfold Fil.at0
  by_cases h0 : x.n = 0
  · rw [if_pos h0, if_pos h0]; exact ⟨⟨h.p, h.n, h.q⟩, rfl⟩
  · rw [if_neg h0, if_neg h0]; exact ⟨h, rfl⟩
theorem put_seq {x : Fil} {qs : List Int} {k : Nat} {cs : List Cell} {p : Int} (hp : p ≠ -1) (hc : cs ≠ []) (h : Shape x qs (cs.length + k)) :
    Shape (x.put cs p) (qs ++ List.replicate cs.length p) k ∧ (seqX (x.put cs p) = seqX x ++ List.replicate cs.length p ∨ seqX (x.put cs p) = seqX x ++ p :: List.replicate cs.length p) := by
  obtain ⟨h1, h2⟩ := at0_shape h p
  obtain ⟨h3, h4⟩ := puts_shape p hp cs (x.at0 p) qs k h1
  refine ⟨h3, ?_⟩
  have hl : cs.length ≠ 0 := by intro e; exact hc (List.length_eq_zero_iff.1 e)
  have hn : (x.put cs p).n ≠ 0 := by
    have : _ = (x.put cs p).n := h3.n
    rw [← this, List.length_append, List.length_replicate]; omega
  have hf : (x.put cs p).fr = if x.n = 0 then p else x.fr := h4.trans h2
  have e : seqX (x.put cs p) = (x.put cs p).fr :: (qs ++ List.replicate cs.length p) := by
    unfold seqX; rw [if_neg hn]; congr 1; exact h3.f
  rw [e, hf]
  by_cases h0 : x.n = 0
  · right
    have hq : qs = [] := List.length_eq_zero_iff.1 (h.n.trans h0)
    rw [if_pos h0, hq]
    unfold seqX
    rw [if_pos h0]; rfl
  · left
    rw [if_neg h0]
    unfold seqX
    rw [if_neg h0, h.f]; rfl
/-- What holds between the steps. -/
structure UpI (width : Nat) (a m : Int) (s : RS) : Prop where
  up : Up a (s.rows.flatMap seqR ++ seqX s.x) m
  sh : ∃ qs k, Shape s.x qs k
  ok : s.x.Ok width
  ov : s.over = true → s.x.n ≠ 0
theorem UpI.rest {width : Nat} {x : Fil} {qs : List Int} {k : Nat} (h : x.Ok width) (s : Shape x qs k) : k = width - x.n := by
  have h1 := h.p
  rw [s.p, List.length_append, List.length_replicate, s.n] at h1
  omega
theorem end_seq {width : Nat} {x : Fil} {qs : List Int} {k : Nat} {p : Int} (hp : p ≠ -1) (h : x.Ok width) (s : Shape x qs k) : seqR (rowOf (x.end_ p)) = seqX x ++ [p] ∨ seqR (rowOf (x.end_ p)) = seqX x ++ [p, p] := by
  have hk := UpI.rest h s
  have hn := h.n
  obtain ⟨j, rfl⟩ : ∃ j, k = j + 1 := ⟨k - 1, by omega⟩
  have hpos : posF (x.end_ p).pos = qs ++ [p] := by
    show posF (x.pos.set x.n p) = _
    rw [s.p, ← s.n, set_shape, posF_app, posF_rep, List.append_nil, posF_app, posF_all s.q, posF_all (by intro y hy; rw [List.mem_singleton] at hy; rw [hy]; exact hp)]
  have hf : (x.end_ p).fr = if x.n = 0 then p else x.fr := (at0_shape s p).2
  have e : seqR (rowOf (x.end_ p)) = (x.end_ p).fr :: posF (x.end_ p).pos := rfl
  rw [e, hpos, hf]
  by_cases h0 : x.n = 0
  · right
    have hq : qs = [] := List.length_eq_zero_iff.1 (s.n.trans h0)
    rw [if_pos h0, hq]
    unfold seqX
    rw [if_pos h0]; rfl
  · left
    rw [if_neg h0]
    unfold seqX
    rw [if_neg h0, s.f]; rfl
theorem Up.more {a m p : Int} {xs ys : List Int} (h : Up a xs m) (hm : m ≤ p) (hy : ∀ y ∈ ys, y = p) : Up a (xs ++ ys) p := Up.append (Up.same hm (Int.le_refl _) hy) h
theorem upI_step {width : Nat} (hw : 4 ≤ width) (wrap : Bool) {a m : Int} (ha : 1 ≤ a) {s : RS} {u : Unt} (h : UpI width a m s) (hm : m ≤ u.pos) (hu : (u.feed = false → u.cells ≠ []) ∧ u.cells.length ≤ 2) : UpI width a u.pos (stepR width wrap s u) := by
  have hok := stepR_ok hw wrap (u := u) h.ok hu.2
  obtain ⟨qs, k, hs⟩ := h.sh
  have hk := UpI.rest h.ok hs
  have hp : u.pos ≠ -1 := by have := h.up.le; omega
  have hx := h.up
  unfold stepR at hok ⊢
  by_cases hf : u.feed = true
  · rw [if_pos hf] at hok ⊢
    refine ⟨?_, ⟨[], width, shape_new width⟩, hok, by simp⟩
    show Up a ((s.rows ++ [rowOf (if s.over = true then s.x else s.x.end_ u.pos)]).flatMap seqR ++ []) u.pos
    rw [List.append_nil, List.flatMap_append]
    by_cases ho : s.over = true
    · rw [if_pos ho]
      have hn := h.ov ho
      have e : [rowOf s.x].flatMap seqR = seqX s.x := by unfold seqX; rw [if_neg hn]; simp [seqR, rowOf]
      rw [e]; exact hx.hi hm
    · rw [if_neg ho]
      have e : [rowOf (s.x.end_ u.pos)].flatMap seqR = seqR (rowOf (s.x.end_ u.pos)) := by simp
      rw [e]
      rcases end_seq hp h.ok hs with e1 | e1
      · rw [e1, ← List.append_assoc]; exact hx.more hm (by simp)
      · rw [e1, ← List.append_assoc]; exact hx.more hm (by simp)
  · rw [if_neg hf] at hok ⊢
    have hc := hu.1 (by simpa using hf)
    by_cases ho : s.over = true
    · rw [if_pos ho]
      exact ⟨hx.hi hm, h.sh, h.ok, h.ov⟩
    · rw [if_neg ho] at hok ⊢
      by_cases hfit : s.x.fits u.cells.length = true
      · rw [if_pos hfit] at hok ⊢
        have hfit' : s.x.n + u.cells.length ≤ s.x.cells.length - 1 := of_decide_eq_true hfit
        rw [h.ok.c] at hfit'
        obtain ⟨j, hj⟩ : ∃ j, k = u.cells.length + j := ⟨k - u.cells.length, by omega⟩
        rw [hj] at hs
        obtain ⟨h1, h2⟩ := put_seq hp hc hs
        refine ⟨?_, ⟨_, _, h1⟩, hok, by simp⟩
        show Up a (s.rows.flatMap seqR ++ seqX (s.x.put u.cells u.pos)) u.pos
        rcases h2 with e | e
        · rw [e, ← List.append_assoc]; exact hx.more hm (fun y hy => List.eq_of_mem_replicate hy)
        · rw [e, ← List.append_assoc]
          refine hx.more hm (fun y hy => ?_)
          rcases List.mem_cons.1 hy with hy | hy
          · exact hy
          · exact List.eq_of_mem_replicate hy
      · rw [if_neg hfit] at hok ⊢
        have hn : s.x.n ≠ 0 := by
          intro e
          apply hfit
          unfold Fil.fits
          rw [h.ok.c, e]
          exact decide_eq_true (by omega)
        by_cases hw' : wrap = true
        · rw [if_pos hw'] at hok ⊢
          obtain ⟨j, hj⟩ : ∃ j, width = u.cells.length + j := ⟨width - u.cells.length, by omega⟩
          have hs0 := shape_new width
          rw [hj] at hs0
          obtain ⟨h1, h2⟩ := put_seq hp hc hs0
          rw [← hj] at h1 h2
          refine ⟨?_, ⟨_, _, h1⟩, hok, by simp⟩
          show Up a ((s.rows ++ [rowOf s.x.cut]).flatMap seqR ++ seqX ((newFil width).put u.cells u.pos)) u.pos
          have e : [rowOf s.x.cut].flatMap seqR = seqX s.x := by unfold seqX; rw [if_neg hn]; simp [seqR, rowOf, Fil.cut, Fil.mark]
          have e0 : seqX (newFil width) = [] := rfl
          rw [List.flatMap_append, e]
          rcases h2 with e1 | e1
          · rw [e1, e0]; exact hx.more hm (fun y hy => List.eq_of_mem_replicate (show y ∈ List.replicate u.cells.length u.pos from hy))
          · rw [e1, e0]
            refine hx.more hm (fun y hy => ?_)
            rcases List.mem_cons.1 (show y ∈ u.pos :: List.replicate u.cells.length u.pos from hy) with hy | hy
            · exact hy
            · exact List.eq_of_mem_replicate hy
        · rw [if_neg hw'] at hok ⊢
          refine ⟨?_, ⟨qs, k, ⟨hs.p, hs.n, hs.q⟩⟩, hok, fun _ => hn⟩
          exact hx.hi hm
theorem upI_all {width : Nat} (hw : 4 ≤ width) (wrap : Bool) {a b : Int} (ha : 1 ≤ a) : ∀ (us : List Unt) (m : Int) (s : RS), UpI width a m s → Up m (us.map (·.pos)) b → (∀ v ∈ us, (v.feed = false → v.cells ≠ []) ∧ v.cells.length ≤ 2) →
    ∃ m', m' ≤ b ∧ UpI width a m' (us.foldl (stepR width wrap) s)
  | [], m, s, h, k, _ => ⟨m, k, h⟩
  | u :: us, m, s, h, k, hv => upI_all hw wrap ha us u.pos _ (upI_step hw wrap ha h k.1 (hv u (by simp))) k.2 (fun v hm => hv v (by simp [hm]))
theorem rowsE_up {width : Nat} (hw : 4 ≤ width) (wrap : Bool) {a b : Int} (ha : 1 ≤ a) {us : List Unt} (k : Up a (us.map (·.pos)) b) (hv : ∀ v ∈ us, (v.feed = false → v.cells ≠ []) ∧ v.cells.length ≤ 2) : Up a ((rowsE width wrap b us).flatMap seqR) b := by
  have h0 : UpI width a a ⟨newFil width, false, []⟩ := ⟨Int.le_refl _, ⟨_, _, shape_new width⟩, newFil_ok width (by omega), by simp⟩
  obtain ⟨m, hm, h⟩ := upI_all hw wrap ha us a _ h0 k hv
  have h' : UpI width a m (rowsS width wrap us) := h
  obtain ⟨qs, j, hs⟩ := h'.sh
  have hx := h'.up
  have hp : b ≠ -1 := by have := k.le; omega
  unfold rowsE
  rw [List.flatMap_append]
  by_cases ho : (rowsS width wrap us).over = true
  · rw [if_pos ho]
    have hn := h'.ov ho
    have e : [rowOf (rowsS width wrap us).x].flatMap seqR = seqX (rowsS width wrap us).x := by unfold seqX; rw [if_neg hn]; simp [seqR, rowOf]
    rw [e]; exact hx.hi hm
  · rw [if_neg ho]
    have e : [rowOf ((rowsS width wrap us).x.end_ b)].flatMap seqR = seqR (rowOf ((rowsS width wrap us).x.end_ b)) := by simp
    rw [e]
    rcases end_seq hp h'.ok hs with e1 | e1
    · rw [e1, ← List.append_assoc]; exact hx.more hm (by simp)
    · rw [e1, ← List.append_assoc]; exact hx.more hm (by simp)
/-- The last position of a list, or the one before it. -/
def lst (l : Int) (xs : List Int) : Int := xs.foldl (fun l x => if x = -1 then l else x) l
theorem lst_app (l : Int) (xs ys : List Int) : lst l (xs ++ ys) = lst (lst l xs) ys := List.foldl_append ..
theorem lst_up {b : Int} : ∀ {xs : List Int} {l a : Int}, l ≤ a → Up a (posF xs) b → lst l xs ≤ b
  | [], _, _, h, k => Int.le_trans h k
  | x :: xs, l, a, h, k => by
    by_cases hx : x = -1
    · have e : posF (x :: xs) = posF xs := by unfold posF; rw [List.filter_cons_of_neg (by simp [hx])]
      rw [e] at k
      have e2 : lst l (x :: xs) = lst l xs := by unfold lst; rw [List.foldl_cons, if_pos hx]
      rw [e2]; exact lst_up h k
    · have e : posF (x :: xs) = x :: posF xs := by unfold posF; rw [List.filter_cons_of_pos (by simp [hx])]
      rw [e] at k
      have e2 : lst l (x :: xs) = lst x xs := by unfold lst; rw [List.foldl_cons, if_neg hx]
      rw [e2]; exact lst_up (Int.le_refl _) k.2
theorem lst_rows {b : Int} : ∀ {rs : List Row} {l a : Int}, l ≤ a → Up a (rs.flatMap seqR) b → lst l (rs.flatMap (·.f1)) ≤ b
  | [], _, _, h, k => Int.le_trans h k
  | r :: rs, l, a, h, k => by
    rw [List.flatMap_cons] at k ⊢
    obtain ⟨m, k1, k2⟩ := Up.app k
    rw [lst_app]
    exact lst_rows (lst_up (Int.le_trans h k1.1) k1.2) k2
theorem flat_f3 (f : Row → List Int) (t : Nat → Int) (hf : ∀ r v, f (toR r v) = f r) (E rs : List Row) (h : ∀ i, rs[i]? = E[i]?.map fun r => toR r (t i)) : rs.flatMap f = E.flatMap f := by
  have hl : rs.map f = E.map f := by
    apply List.ext_getElem?
    intro i
    rw [List.getElem?_map, List.getElem?_map, h, Option.map_map]
    congr 1
    funext r
    exact hf r _
  rw [List.flatMap_def, List.flatMap_def, hl]
/-- The rows of parts, fewer than asked: what is true of each row, and of each cell. -/
structure Good (from_ to_ width : Int) (rs : List Row) : Prop where
  ne : rs ≠ []
  wid : ∀ r ∈ rs, (r.f0.length : Int) = width ∧ (r.f1.length : Int) = width
  nxt : ∀ i (h : i < rs.length), (rs[i]'h).f3 = nextF to_ rs i
  up : Up from_ (rs.flatMap seqR) to_
theorem rows_good {l : List Part} {from_ to_ width tab : Int} {wrap : Bool} {rs : List Row} (h : rowsP l from_ to_ width tab wrap 10000 = (rs, 0)) (hn : rs.length ≠ 10000) : Good from_ to_ width rs := by
  have hch : checkP l from_ to_ = 0 := by
    unfold rowsP at h
    split at h
    · rename_i h1; exact absurd (congrArg Prod.snd h) h1
    · rename_i h1; exact Classical.not_not.1 h1
  have hw := rowsP_width l from_ to_ width tab wrap 10000
  rw [h] at hw
  unfold rowsP at h
  rw [if_neg (by rw [hch]; simp)] at h
  split at h
  · cases h
  · rename_i hb
    have hbd : 4 ≤ width ∧ width ≤ 1000 := by unfold badR at hb; omega
    generalize hE : rowsE width.toNat wrap to_ (unitsC tab (charsP l)).1 = E at h
    have h' : collectR to_ 10000 E = rs := congrArg Prod.fst h
    have hEl : E.length < 10000 := by
      rcases Nat.lt_or_ge E.length 10000 with h1 | h1
      · exact h1
      · exfalso
        apply hn
        have hle := collectR_len to_ 10000 E
        rw [h'] at hle
        have h2 := collectR_get to_ 10000 E 9999
        rw [h', if_pos (by omega), List.getElem?_eq_getElem (show 9999 < E.length by omega)] at h2
        have h3 := (List.getElem?_eq_some_iff.1 h2).1
        omega
    have hget : ∀ i, rs[i]? = E[i]?.map fun r => toR r (nextF to_ E i) := by
      intro i
      rw [← h', collectR_get]
      by_cases hi : i < 10000
      · rw [if_pos hi]
      · rw [if_neg hi, List.getElem?_eq_none (by omega)]; rfl
    have hck : 1 ≤ from_ ∧ from_ ≤ to_ ∧ checkL from_ to_ l from_ = 0 := by
      unfold checkP at hch
      split at hch
      · cases hch
      · exact ⟨by omega, by omega, hch⟩
    have hu := charsL_up from_ to_ l from_ hck.2.1 hck.2.2
    obtain ⟨u1, u2⟩ := units_up tab (charsP l) ([], 0) from_ from_ to_ (Int.le_refl _) (by simp) hu
    have hup := rowsE_up (width := width.toNat) (by omega) wrap hck.1 (us := (unitsC tab (charsP l)).1) u1 u2
    rw [hE] at hup
    refine ⟨?_, ?_, ?_, ?_⟩
    · intro e
      have h0 := hget 0
      rw [e] at h0
      have : E ≠ [] := by rw [← hE]; unfold rowsE; simp
      obtain ⟨x, xs, rfl⟩ : ∃ x xs, E = x :: xs := by cases E with
        | nil => exact absurd rfl this
        | cons x xs => exact ⟨x, xs, rfl⟩
      simp at h0
    · intro r hr
      have := hw r hr
      omega
    · intro i hi
      have h1 := hget i
      rw [List.getElem?_eq_getElem hi] at h1
      obtain ⟨r, hr, he⟩ := Option.map_eq_some_iff.1 h1.symm
      rw [← he]
      show nextF to_ E i = _
      unfold nextF
      rw [hget (i + 1)]
      cases E[i + 1]? <;> rfl
    · rw [flat_f3 seqR (nextF to_ E) (fun _ _ => rfl) E rs hget]
      exact hup
theorem flat_split (f : Row → List Int) (rs : List Row) (i : Nat) (h : i < rs.length) : rs.flatMap f = (rs.take i).flatMap f ++ (f (rs[i]'h) ++ (rs.drop (i + 1)).flatMap f) := by
  conv => lhs; rw [← List.take_append_drop i rs]
  rw [List.flatMap_append, List.drop_eq_getElem_cons h, List.flatMap_cons]
/-- The last position before row i. -/
def before (from_ : Int) (rs : List Row) (i : Nat) : Int := lst from_ ((rs.take i).flatMap (·.f1))
theorem before_succ (from_ : Int) (rs : List Row) (i : Nat) (h : i < rs.length) : before from_ rs (i + 1) = lst (before from_ rs i) (rs[i]'h).f1 := by
  unfold before
  rw [List.take_succ_eq_append_getElem h, List.flatMap_append, lst_app]
  simp
theorem Good.row {from_ to_ width : Int} {rs : List Row} (g : Good from_ to_ width rs) (i : Nat) (h : i < rs.length) : before from_ rs i ≤ (rs[i]'h).f2 ∧ (rs[i]'h).f2 ≤ (rs[i]'h).f3 := by
  have hu := g.up
  rw [flat_split seqR rs i h] at hu
  obtain ⟨m, h1, h2⟩ := Up.app hu
  refine ⟨Int.le_trans (lst_rows (Int.le_refl _) h1) h2.1, ?_⟩
  rw [g.nxt i h]
  obtain ⟨m2, h3, h4⟩ := Up.app (h2 : Up m (seqR rs[i] ++ _) to_)
  have h5 : (rs[i]'h).f2 ≤ m2 := h3.2.le
  unfold nextF
  by_cases hi : i + 1 < rs.length
  · rw [List.getElem?_eq_getElem hi]
    rw [List.drop_eq_getElem_cons hi, List.flatMap_cons] at h4
    exact Int.le_trans h5 h4.1
  · rw [List.getElem?_eq_none (by omega)]
    exact Int.le_trans h5 h4.le
theorem Good.cell {from_ to_ width : Int} {rs : List Row} (g : Good from_ to_ width rs) (i : Nat) (h : i < rs.length) (k : Nat) (hk : k < (rs[i]'h).f1.length) (hp : (rs[i]'h).f1[k] ≠ -1) :
    lst (before from_ rs i) ((rs[i]'h).f1.take k) ≤ (rs[i]'h).f1[k] ∧ (rs[i]'h).f1[k] ≤ to_ := by
  have hu := g.up
  rw [flat_split seqR rs i h] at hu
  obtain ⟨m, h1, h2⟩ := Up.app hu
  obtain ⟨m2, h3, h4⟩ := Up.app (h2 : Up m (seqR rs[i] ++ _) to_)
  have hb := lst_rows (Int.le_refl _) h1
  have e : posF (rs[i]'h).f1 = posF ((rs[i]'h).f1.take k) ++ (rs[i]'h).f1[k] :: posF ((rs[i]'h).f1.drop (k + 1)) := by
    conv => lhs; rw [← List.take_append_drop k (rs[i]'h).f1]
    rw [posF_app, List.drop_eq_getElem_cons hk]
    congr 1
    unfold posF
    rw [List.filter_cons_of_pos (by simpa using hp)]
  have h5 := h3.2
  rw [e] at h5
  obtain ⟨m3, h6, h7⟩ := Up.app h5
  exact ⟨Int.le_trans (lst_up (Int.le_trans hb h3.1) h6) h7.1, Int.le_trans h7.2.le h4.le⟩
theorem idxFrom_hit (p : Int → Bool) (d : Int) : ∀ (zs : List Int) (i k : Nat) (y : Int), zs[k]? = some y → p y = true → ∃ j y', j ≤ k ∧ Lib.idxByFrom (fun _ y => p y) d zs i = ((i + j : Nat) : Int) ∧ zs[j]? = some y' ∧ p y' = true
  | [], i, k, y, h, _ => by simp at h
  | z :: zs, i, k, y, h, hp => by
    by_cases hz : p z = true
    · exact ⟨0, z, by omega, by simp [Lib.idxByFrom, hz], rfl, hz⟩
    · obtain ⟨k', rfl⟩ : ∃ k', k = k' + 1 := by
        refine ⟨k - 1, ?_⟩
        rcases k with _ | k
        · simp at h; subst h; exact absurd hp hz
        · omega
      obtain ⟨j, y', h1, h2, h3, h4⟩ := idxFrom_hit p d zs (i + 1) k' y (by simpa using h) hp
      refine ⟨j + 1, y', by omega, ?_, by simpa using h3, h4⟩
      simp only [Lib.idxByFrom]
      rw [if_neg hz, h2]
      omega
theorem idxFrom_neg (p : Int → Bool) (d : Int) : ∀ (zs : List Int) (i : Nat), 0 ≤ Lib.idxByFrom (fun _ y => p y) d zs i → ∃ j y', Lib.idxByFrom (fun _ y => p y) d zs i = ((i + j : Nat) : Int) ∧ zs[j]? = some y' ∧ p y' = true
  | [], i, h => by simp [Lib.idxByFrom] at h
  | z :: zs, i, h => by
    by_cases hz : p z = true
    · exact ⟨0, z, by simp [Lib.idxByFrom, hz], rfl, hz⟩
    · simp only [Lib.idxByFrom] at h ⊢
      rw [if_neg hz] at h ⊢
      obtain ⟨j, y', h1, h2, h3⟩ := idxFrom_neg p d zs (i + 1) h
      exact ⟨j + 1, y', by rw [h1]; omega, by simpa using h2, h3⟩
theorem scan_hit (p : Int → Bool) : ∀ (rs : List Row) (i0 n k : Nat) (r : Row) (y : Int), rs[n]? = some r → r.f1[k]? = some y → p y = true →
    ∃ (m j : Nat) (r' : Row) (y' : Int), scanP p rs (i0 : Int) = some (((i0 + m : Nat) : Int), (j : Int)) ∧ rs[m]? = some r' ∧ r'.f1[j]? = some y' ∧ p y' = true ∧ (m < n ∨ m = n ∧ j ≤ k)
  | [], _, _, _, _, _, h, _, _ => by simp at h
  | q :: rs, i0, n, k, r, y, h, hk, hp => by
    unfold scanP
    by_cases h0 : 0 ≤ idxP p q.f1
    · rw [if_pos h0]
      rcases n with _ | n
      · simp at h; subst h
        obtain ⟨j, y', h1, h2, h3, h4⟩ := idxFrom_hit p default q.f1 0 k y hk hp
        refine ⟨0, j, q, y', ?_, rfl, h3, h4, .inr ⟨rfl, h1⟩⟩
        have : idxP p q.f1 = (j : Int) := by have := h2; simpa [idxP, Lib.idxBy] using this
        rw [this]; rfl
      · obtain ⟨j, y', h2, h3, h4⟩ := idxFrom_neg p default q.f1 0 h0
        refine ⟨0, j, q, y', ?_, rfl, h3, h4, .inl (by omega)⟩
        have : idxP p q.f1 = (j : Int) := by have := h2; simpa [idxP, Lib.idxBy] using this
        rw [this]; rfl
    · rw [if_neg h0]
      rcases n with _ | n
      · simp at h; subst h
        obtain ⟨j, y', h1, h2, h3, h4⟩ := idxFrom_hit p default q.f1 0 k y hk hp
        exfalso
        apply h0
        have : idxP p q.f1 = (j : Int) := by have := h2; simpa [idxP, Lib.idxBy] using this
        rw [this]; omega
      · obtain ⟨m, j, r', y', h1, h2, h3, h4, h5⟩ := scan_hit p rs (i0 + 1) n k r y (by simpa using h) hk hp
        refine ⟨m + 1, j, r', y', ?_, by simpa using h2, h3, h4, by omega⟩
        have e : ((i0 : Int) + 1) = ((i0 + 1 : Nat) : Int) := by omega
        rw [e, h1]
        congr 2
        omega
theorem where_hit {rs : List Row} {n k : Nat} {r : Row} {y : Int} (h : rs[n]? = some r) (hk : r.f1[k]? = some y) (hy : y ≠ -1) :
    ∃ (m j : Nat) (r' : Row), whereP rs y = ((m : Int), (j : Int), true) ∧ rs[m]? = some r' ∧ r'.f1[j]? = some y ∧ (m < n ∨ m = n ∧ j ≤ k) := by
  obtain ⟨m, j, r', y', h1, h2, h3, h4, h5⟩ := scan_hit (isP false y) rs 0 n k r y h hk (by simp [isP, hy])
  have hyy : y' = y := by
    have : ((y' != -1) && (y' == y)) = true := h4
    simp at this
    exact this.2
  subst hyy
  refine ⟨m, j, r', ?_, h2, h3, h5⟩
  unfold whereP
  have h1' : scanP (isP false y') rs 0 = some ((m : Int), (j : Int)) := by
    have := h1
    rw [Nat.zero_add] at this
    exact this
  rw [h1']
theorem at_hit {rs : List Row} {n k : Nat} (h : n < rs.length) (hk : k < (rd_T39 rs (n : Int)).f1.length) {y : Int} (he : (rd_T39 rs (n : Int)).f1.getD k 0 = y) (hy : y ≠ -1) : atP rs (n : Int) (k : Int) = (y, true) := by
  unfold atP
  rw [if_neg (by omega)]
  unfold colP
  have e : ((k : Int)).toNat = k := Int.toNat_natCast k
  rw [e, he, if_pos ⟨by omega, by omega, hy⟩]
theorem rd_get (rs : List Row) (n : Nat) (h : n < rs.length) : rd_T39 rs (n : Int) = rs[n]'h := by simp [rd_T39, h]
end Go.Proofs.YtppjgofjjcdcdaaDoor

/- copyistlaw35.LayoutPlaces: the walk. -/
namespace Go.Proofs.YtppjgofjjcdcdaaDoor
open PLayoutRows
open Go.RowKit Go.Proofs.YtppjgofjjcdcdaaDoorW.PrintWords
attribute [local go_sem] Oper.semAt_some
theorem rowsP_none {l : List Part} {from_ to_ width tab most : Int} {wrap : Bool} {rs : List Row} {e : Int} (h : rowsP l from_ to_ width tab wrap most = (rs, e)) (he : e ≠ 0) : rs = [] := by
  unfold rowsP at h
  split at h
  · cases h; rfl
  · split at h
    · cases h; rfl
    · cases h; exact absurd rfl he
/-- How far the walk over the rows has come. -/
structure PlS (from_ : Int) (rs : List Row) (w0 : World) (k : Nat) (last : Int) (wr : World) : Prop where
  le : k ≤ rs.length
  la : last = before from_ rs k
  bel : Below w0.heap.size w0 wr
structure PlI (b : Int) (P : List Int) (w0 : World) (q : Nat) (last : Int) (wr : World) : Prop where
  le : q ≤ P.length
  la : last = lst b (P.take q)
  bel : Below w0.heap.size w0 wr
theorem lst_take (b : Int) (P : List Int) (q : Nat) (h : q < P.length) : lst b (P.take (q + 1)) = if P.getD q 0 = -1 then lst b (P.take q) else P.getD q 0 := by
  rw [List.take_succ_eq_append_getElem h, lst_app]
  simp [lst, h]
set_option maxRecDepth 100000
set_option maxHeartbeats 8000000 in
theorem places_walk (A : Option Addr) (n c : Nat) (l : List Part) (hn : l.length = n) (hnc : n ≤ c) (from_ to_ width tab : Int) (wrap : Bool) (w : World) (hC : Kd.C k55 w A n l) (hT : Tabs w) :
    Calls Tryd.prog 6 #[.slice A n c, .int .i64 from_, .int .i64 to_, .int .i64 width, .int .i64 tab, .bool wrap] w fun e w' => e = .returned (.bool true) ∧ Below w.heap.size w w' := by
  have HT := Lib.hid (fun W (h : Below w.heap.size w W) => hT.below h)
  have HC := Lib.hid (fun W (h : Below w.heap.size w W) => Kd.C_below hC h)
  have HN := Lib.hid hn
  have HNC := Lib.hid hnc
  clear hC hT hn hnc
  go_enter Tryd.func6, Tryd.ntmps6
  go_wp2_with fail
  refine (known_any _ (HT.out _ (Below.refl _ _))).mono ?_
  rintro e w1 ⟨rfl, hb⟩
  have HB1 := Lib.hid hb
  clear hb
  go_wp2_with fail
  refine (long_any A n c l HN.out HNC.out _ (HC.out _ HB1.out)).mono ?_
  rintro e w2 ⟨b, rfl, hlong, hd⟩
  have HB2 := Lib.hid (below_on HB1.out hd.below)
  have HL := Lib.hid hlong
  clear hd hlong HB1
  cases b with
  | true =>
    go_wp2_with (first | (((with_reducible refine wpList_unguard ?_ ?_); (focus rfl))) | (((with_reducible refine wpList_pass ?_ (by kernel_rfl) ?_); (focus rfl))))
    go_ret
    exact ⟨rfl, HB2.out⟩
  | false =>
    obtain ⟨hl30, hl200⟩ := HL.out rfl
    have HL30 := Lib.hid hl30
    have HS := Lib.hid (show ∀ p ∈ l, p.f3.size ≤ 1000000 from fun p hp => by have := hl200 p hp; omega)
    clear hl30 hl200 HL
    go_wp2_with (first | (((with_reducible refine wpList_unguard ?_ ?_); (focus rfl))) | (((with_reducible refine wpList_pass ?_ (by kernel_rfl) ?_); (focus rfl))))
    refine (vast_any A n c l HN.out HNC.out (by have := HL30.out; omega) width tab 20000 _ (HC.out _ HB2.out)).mono ?_
    rintro e w3 ⟨b3, rfl, hd⟩
    have HB3 := Lib.hid (below_on HB2.out hd.below)
    clear hd HB2
    cases b3 with
    | true =>
      go_wp2_with (first | (((with_reducible refine wpList_unguard ?_ ?_); (focus rfl))) | (((with_reducible refine wpList_pass ?_ (by kernel_rfl) ?_); (focus rfl))))
      go_ret
      exact ⟨rfl, HB3.out⟩
    | false =>
      obtain ⟨⟨ra, ea⟩, hra⟩ : ∃ x, rowsP l from_ to_ width tab wrap 10000 = x := ⟨_, rfl⟩
      have HRA := Lib.hid hra
      clear hra
      go_wp2_with (first | (((with_reducible refine wpList_unguard ?_ ?_); (focus rfl))) | (((with_reducible refine wpList_pass ?_ (by kernel_rfl) ?_); (focus rfl))))
      refine (rows_C A n c l HN.out from_ to_ width tab wrap 10000 _ (HC.out _ HB3.out) (HT.out _ HB3.out) HS.out (by have := HL30.out; omega) ra ea HRA.out).mono ?_
      rintro e w4 ⟨A4, c4, rfl, hc4, hC4, hb⟩
      have HB4 := Lib.hid (below_on HB3.out hb)
      have HC4 := Lib.hid hC4
      have HL4 := Lib.hid hc4
      clear hb hC4 HB3 hc4
      obtain ⟨na, hna⟩ : ∃ na, ra.length = na := ⟨_, rfl⟩
      rw [hna] at HC4 HL4 ⊢
      have HNA := Lib.hid hna
      clear hna
      by_cases he : ea = 0
      · subst he
        by_cases hmx : na = 10000
        · subst hmx
          go_wp2_with (first | (((with_reducible refine wpList_unguard ?_ ?_); (focus rfl))) | (((with_reducible refine wpList_pass ?_ (by kernel_rfl) ?_); (focus rfl))))
          go_ret
          exact ⟨rfl, HB4.out⟩
        · have hg := rows_good HRA.out (by rw [HNA.out]; exact hmx)
          have HG := Lib.hid hg
          have hnp : 0 < na := by
            rcases Nat.eq_zero_or_pos na with h0 | h0
            · exact absurd (List.length_eq_zero_iff.1 (HNA.out.trans h0)) hg.ne
            · exact h0
          obtain ⟨wn, rfl⟩ : ∃ wn : Nat, width = (wn : Int) := by
            obtain ⟨r, hr⟩ := List.exists_mem_of_ne_nil _ hg.ne
            exact ⟨r.f0.length, (hg.wid r hr).1.symm⟩
          have HWN := Lib.hid (show ∀ r ∈ ra, r.f0.length = wn ∧ r.f1.length = wn from fun r hr => by have := hg.wid r hr; omega)
          have hmx' : ((na : Int) == 10000) = false := by simp; omega
          clear hg hmx
          go_wp2_with (first | (((with_reducible refine wpList_unguard ?_ ?_); (focus rfl))) | (((with_reducible refine wpList_pass ?_ (by kernel_rfl) ?_); (focus rfl))))
          go_loopw [16, 17] (fun v i wr => ∃ (k : Nat) (last : Int), v = .int .i64 last ∧ i = .int .i64 k ∧ PlS from_ ra w4 k last wr) (fun _ i _ => na - (intOf i).toNat)
          case atStart => exact ⟨0, from_, rfl, rfl, Nat.zero_le _, by simp [before, lst], Below.refl _ _⟩
          case round =>
            obtain ⟨k, last, rfl, rfl, hS⟩ := hrel
            obtain ⟨wo, rfl⟩ : ∃ wo : World, wo = wr := ⟨_, rfl⟩
            have hk : k ≤ na := by have := hS.le; have := HNA.out; omega
            have hnb : (na : Int) ≤ 9223372036854775807 := by have := HC4.out.2.1; omega
            have HSS := Lib.hid hS
            clear hS
            by_cases hlt : k < na
            · have hkl : k < ra.length := by have := HNA.out; omega
              have hCi := Kd.C_below HC4.out HSS.out.bel
              obtain ⟨ad, A0, c0, A1, c1, hA4, x0, x1, x2, x3, x4, lc0, -, lc1, g1⟩ := at_T39 hCi (k : Int) (by omega) (by omega)
              obtain ⟨rw_, hrw⟩ : ∃ rw_, rd_T39 ra (k : Int) = rw_ := ⟨_, rfl⟩
              have hrw' : ra[k]'hkl = rw_ := (rd_get ra k hkl).symm.trans hrw
              have hwid := HWN.out rw_ (by rw [← hrw']; exact List.getElem_mem hkl)
              have hrow := HG.out.row k hkl
              have hnxt := HG.out.nxt k hkl
              rw [hrw'] at hrow hnxt
              rw [hrw, Int.toNat_natCast] at x0 x1 x2 x3 x4
              rw [hrw] at lc0 lc1 g1
              rw [hwid.1] at x0 lc0
              rw [hwid.2] at x1 lc1 g1
              have hd1 : decide (rw_.f2 < last) = false := by rw [HSS.out.la]; simp; omega
              have hd2 : decide (rw_.f3 < rw_.f2) = false := by simp; omega
              have hk0 : (0 : Int) ≤ (k : Int) := by omega
              have hk1 : (k : Int) < (na : Int) := by omega
              subst hA4
              have HG1 := Lib.hid (fun W (h : Below wo.heap.size wo W) => Kd.C_below g1 h)
              have HRW := Lib.hid hrw'
              have HWD := Lib.hid hwid
              have HLC1 := Lib.hid lc1
              obtain ⟨nx, hnx⟩ : ∃ nx, rw_.f3 = nx := ⟨_, rfl⟩
              rw [hnx] at x3 hnxt hd2
              obtain ⟨fr, hfr⟩ : ∃ fr, rw_.f2 = fr := ⟨_, rfl⟩
              rw [hfr] at x2 hd1 hd2
              have HLE := Lib.hid (show ∀ q (hq : q < wn) y, rw_.f1.getD q 0 = y → y ≠ -1 → lst (before from_ ra k) (rw_.f1.take q) ≤ y ∧ y ≤ to_ ∧ atP ra (k : Int) (q : Int) = (y, true) ∧ ∃ (m j : Nat) (r' : Row), whereP ra y = ((m : Int), (j : Int), true) ∧ ra[m]? = some r' ∧ r'.f1[j]? = some y ∧ (m < k ∨ m = k ∧ j ≤ q) from by
                intro q hq y hy hy1
                have hql : q < (ra[k]'hkl).f1.length := by rw [hrw', hwid.2]; exact hq
                have hgy : (ra[k]'hkl).f1[q] = y := by rw [← hy, ← hrw']; simp [hql]
                have hc := HG.out.cell k hkl q hql (by rw [hgy]; exact hy1)
                rw [hgy, hrw'] at hc
                refine ⟨hc.1, hc.2, at_hit hkl (by rw [hrw, hwid.2]; exact hq) (by rw [hrw]; exact hy) hy1, ?_⟩
                refine where_hit (r := ra[k]'hkl) (List.getElem?_eq_getElem hkl) ?_ hy1
                rw [List.getElem?_eq_getElem hql, hgy])
              clear hCi g1 hrw hrow hwid lc1 hrw' hnx hfr
              by_cases hnl : k + 1 < na
              · have hCj := Kd.C_below HC4.out HSS.out.bel
                obtain ⟨ad', B0, d0, B1, d1, hA4', -, -, y2, -, -, -, -, -, -⟩ := at_T39 hCj ((k : Int) + 1) (by omega) (by omega)
                cases hA4'
                rw [show (((k : Int) + 1)).toNat = k + 1 by omega] at y2
                have hnv : (rd_T39 ra ((k : Int) + 1)).f2 = nx := by
                  have h1 := hnxt
                  unfold nextF at h1
                  rw [List.getElem?_eq_getElem (show k + 1 < ra.length by have := HNA.out; omega)] at h1
                  have h2 := rd_get ra (k + 1) (by have := HNA.out; omega)
                  rw [show (((k + 1 : Nat)) : Int) = (k : Int) + 1 by omega] at h2
                  rw [h2, h1]
                rw [hnv] at y2
                have hn0 : (0 : Int) ≤ (k : Int) + 1 := by omega
                have hn1 : (k : Int) + 1 < (na : Int) := by omega
                have y2a : (wo.alloc (.cells #[.slice A0 wn c0, .slice A1 wn c1, .int .i64 fr, .int .i64 nx, .bool rw_.f4] 39)).cell? ⟨(ad.add ((k + 1) * 5)).block, (ad.add ((k + 1) * 5)).off + 2, none⟩ = some (.int .i64 nx) := cell_later (below_alloc (Below.refl _ _) _) y2
                clear hCj hnv hnxt
                go_wp2_with (first | (((with_reducible refine wpList_unguard ?_ ?_); (focus rfl))) | (((with_reducible refine wpList_pass ?_ (by kernel_rfl) ?_); (focus rfl))))
                obtain ⟨w1, hW1⟩ : ∃ w1, wo.alloc (.cells #[.slice A0 wn c0, .slice A1 wn c1, .int .i64 fr, .int .i64 nx, .bool rw_.f4] 39) = w1 := ⟨_, rfl⟩
                rw [hW1]
                have hxb : w1.cell? ⟨wo.heap.size, 1, none⟩ = some (.slice A1 wn c1) := by rw [← hW1]; exact cell_row (World.alloc_heap_new wo _) rfl
                have hb1 : Below wo.heap.size wo w1 := by rw [← hW1]; exact below_alloc (Below.refl _ _) _
                have HX1 := Lib.hid hxb
                have HB1 := Lib.hid hb1
                clear hW1 hxb hb1 x0 x1 x2 x3 x4
                obtain ⟨rb, hrb⟩ : ∃ rb, wo.heap.size = rb := ⟨_, rfl⟩
                rw [hrb] at HX1 ⊢
                clear hrb
                go_loopw [16, 20] (fun v i wi => ∃ (q : Nat) (la : Int), v = .int .i64 la ∧ i = .int .i64 q ∧ PlI (before from_ ra k) rw_.f1 w1 q la wi) (fun _ i _ => wn - (intOf i).toNat)
                case atStart => exact ⟨0, last, rfl, rfl, Nat.zero_le _, by rw [HSS.out.la]; simp [lst], Below.refl _ _⟩
                case round =>
                  obtain ⟨q, la, rfl, rfl, hI⟩ := hrel
                  obtain ⟨wi, rfl⟩ : ∃ wi : World, wi = wr := ⟨_, rfl⟩
                  have hqw : q ≤ wn := by have := hI.le; have := HWD.out.2; omega
                  have HI := Lib.hid hI
                  clear hI
                  by_cases hql : q < wn
                  · obtain ⟨y, hyy⟩ : ∃ y, rw_.f1.getD q 0 = y := ⟨_, rfl⟩
                    have HX := Lib.hid (fun W (h : Below w1.heap.size w1 W) => cell_later h HX1.out)
                    obtain ⟨adp, hA1, -⟩ := at_int (HG1.out _ HB1.out) q hql
                    have HQ := Lib.hid (show ∀ W, Below w1.heap.size w1 W → W.cell? (adp.add q) = some (.int .i64 y) from by
                      intro W h
                      obtain ⟨ad2, h1, h2⟩ := at_int (HG1.out W (below_on HB1.out h)) q hql
                      rw [hA1] at h1
                      cases h1
                      rw [hyy] at h2
                      exact h2)
                    subst hA1
                    have hx := HX.out _ HI.out.bel
                    have hxq := HQ.out _ HI.out.bel
                    have hq0 : (0 : Int) ≤ (q : Int) := by omega
                    have hq1 : (q : Int) < (wn : Int) := by omega
                    have hqb : (wn : Int) ≤ 9223372036854775807 := by have := (HG1.out _ HB1.out).2.1; omega
                    have hlt2 := lst_take (before from_ ra k) rw_.f1 q (by have := HWD.out.2; omega)
                    rw [hyy] at hlt2
                    by_cases hy : y = -1
                    · subst hy
                      rw [if_pos rfl] at hlt2
                      have HLT := Lib.hid hlt2
                      clear hlt2 hyy
                      go_wp2_with (first | (((with_reducible refine wpList_unguard ?_ ?_); (focus rfl))) | (((with_reducible refine wpList_pass ?_ (by kernel_rfl) ?_); (focus rfl))))
                      go_roundw
                      case rel => exact ⟨q + 1, la, rfl, by go_num, by have := HWD.out.2; omega, by rw [HLT.out]; exact HI.out.la, HI.out.bel⟩
                      case measure => simp [intOf]; omega
                    · rw [if_neg hy] at hlt2
                      have hy' : (y == -1) = false := by simpa using hy
                      obtain ⟨hl1, hl2, hat, m, j, r', hwh, hm, hj, hmj⟩ := HLE.out q hql y hyy hy
                      have hd3 : decide (y < la) = false := by rw [HI.out.la]; simp; omega
                      have hd4 : decide (to_ < y) = false := by simp; omega
                      have HLT := Lib.hid hlt2
                      have HAT := Lib.hid (show ∀ W, Below w1.heap.size w1 W → Calls Tryd.prog 22 #[.slice (some ad) na c4, .int .i64 k, .int .i64 q] W (fun e w' => e = .returned (.tuple #[.int .i64 y, .bool true]) ∧ Below W.heap.size W w') from fun W h =>
                        (callsIn_wide.1 (at_any (some ad) c4 ra na HNA.out (k : Int) (q : Int) W (Kd.C_below HC4.out (below_on (below_on HSS.out.bel HB1.out) h)))).mono (by rintro e w' ⟨rfl, h2⟩; rw [hat]; exact ⟨rfl, h2.toBelow⟩))
                      have HWH := Lib.hid (show ∀ W, Below w1.heap.size w1 W → Calls Tryd.prog 20 #[.slice (some ad) na c4, .int .i64 y] W (fun e w' => e = .returned (.tuple #[.int .i64 m, .int .i64 j, .bool true]) ∧ Below W.heap.size W w') from fun W h =>
                        (where_any (some ad) c4 ra na HNA.out y W (Kd.C_below HC4.out (below_on (below_on HSS.out.bel HB1.out) h))).mono (by rintro e w' ⟨rfl, h2⟩; rw [hwh]; exact ⟨rfl, h2⟩))
                      have hml : m < ra.length := (List.getElem?_eq_some_iff.1 hm).1
                      have hmw := HWN.out r' (List.mem_of_getElem? hm)
                      have hjl : j < wn := by have := (List.getElem?_eq_some_iff.1 hj).1; omega
                      have hjy : r'.f1.getD j 0 = y := by simp [hj]
                      have hmr : rd_T39 ra (m : Int) = r' := by rw [rd_get ra m hml]; exact (List.getElem?_eq_some_iff.1 hm).2
                      have HM := Lib.hid (show ∀ W, Below w1.heap.size w1 W → ∃ adm dm, W.cell? ⟨(ad.add (m * 5)).block, (ad.add (m * 5)).off + 1, none⟩ = some (.slice (some adm) wn dm) ∧ W.cell? (adm.add j) = some (.int .i64 y) from by
                        intro W h
                        obtain ⟨ad', B0, d0, B1, d1, hA4', -, y1, -, -, -, -, -, -, g2⟩ := at_T39 (Kd.C_below HC4.out (below_on (below_on HSS.out.bel HB1.out) h)) (m : Int) (by omega) (by have := HNA.out; omega)
                        cases hA4'
                        rw [hmr, hmw.2, Int.toNat_natCast] at y1
                        rw [hmr, hmw.2] at g2
                        obtain ⟨adm, h1, h2⟩ := at_int g2 j hjl
                        rw [hjy] at h2
                        subst h1
                        exact ⟨adm, d1, y1, h2⟩)
                      have hm0 : (0 : Int) ≤ (m : Int) := by omega
                      have hm1 : (m : Int) < (na : Int) := by have := HNA.out; omega
                      have hj0 : (0 : Int) ≤ (j : Int) := by omega
                      have hj1 : (j : Int) < (wn : Int) := by omega
                      have hd5 : decide ((k : Int) < (m : Int)) = false := by simp; omega
                      clear hlt2 hyy hwh hat hm hj hml hmw hjl hjy hmr hl1 hl2
                      go_wp2_with (first | (((with_reducible refine wpList_unguard ?_ ?_); (focus rfl))) | (((with_reducible refine wpList_pass ?_ (by kernel_rfl) ?_); (focus rfl))))
                      refine (HAT.out _ HI.out.bel).mono ?_
                      rintro e w5 ⟨rfl, hb5⟩
                      have HB5 := Lib.hid (below_on HI.out.bel hb5)
                      have hx5 := HX.out _ HB5.out
                      have hxq5 := HQ.out _ HB5.out
                      clear hx hxq hb5
                      go_wp2_with (first | (((with_reducible refine wpList_unguard ?_ ?_); (focus rfl))) | (((with_reducible refine wpList_pass ?_ (by kernel_rfl) ?_); (focus rfl))))
                      refine (HWH.out _ HB5.out).mono ?_
                      rintro e w6 ⟨rfl, hb6⟩
                      have HB6 := Lib.hid (below_on HB5.out hb6)
                      have hx6 := HX.out _ HB6.out
                      have hxq6 := HQ.out _ HB6.out
                      obtain ⟨adm, dm, hm6, hj6⟩ := HM.out _ HB6.out
                      clear hx5 hxq5 hb6
                      by_cases hmk : m = k
                      · subst hmk
                        have hd6 : decide ((q : Int) < (j : Int)) = false := by simp; omega
                        go_wp2_with (first | (((with_reducible refine wpList_unguard ?_ ?_); (focus rfl))) | (((with_reducible refine wpList_pass ?_ (by kernel_rfl) ?_); (focus rfl))))
                        go_roundw
                        case rel => exact ⟨q + 1, y, rfl, by go_num, by have := HWD.out.2; omega, HLT.out.symm, HB6.out⟩
                        case measure => simp [intOf]; omega
                      · have hd6 : ((m : Int) == (k : Int)) = false := by simp; omega
                        go_wp2_with (first | (((with_reducible refine wpList_unguard ?_ ?_); (focus rfl))) | (((with_reducible refine wpList_pass ?_ (by kernel_rfl) ?_); (focus rfl))))
                        go_roundw
                        case rel => exact ⟨q + 1, y, rfl, by go_num, by have := HWD.out.2; omega, HLT.out.symm, HB6.out⟩
                        case measure => simp [intOf]; omega
                  · have hqn : q = wn := by omega
                    subst hqn
                    go_wp2_with (first | (((with_reducible refine wpList_unguard ?_ ?_); (focus rfl))) | (((with_reducible refine wpList_pass ?_ (by kernel_rfl) ?_); (focus rfl))))
                    go_roundw
                    case rel => exact ⟨k + 1, la, rfl, by go_num, by have := HNA.out; omega, by rw [HI.out.la, before_succ from_ ra k (by have := HNA.out; omega), HRW.out, List.take_of_length_le (by rw [HWD.out.2]; exact Nat.le_refl _)], below_on (below_on HSS.out.bel HB1.out) HI.out.bel⟩
                    case measure => simp [intOf]; omega
              · have hnv : nx = to_ := by
                  rw [hnxt]
                  unfold nextF
                  rw [List.getElem?_eq_none (by have := HNA.out; omega)]
                subst hnv
                have hn1 : ¬ (k : Int) + 1 < (na : Int) := by omega
                clear hnxt
                go_wp2_with (first | (((with_reducible refine wpList_unguard ?_ ?_); (focus rfl))) | (((with_reducible refine wpList_pass ?_ (by kernel_rfl) ?_); (focus rfl))))
                obtain ⟨w1, hW1⟩ : ∃ w1, wo.alloc (.cells #[.slice A0 wn c0, .slice A1 wn c1, .int .i64 fr, .int .i64 nx, .bool rw_.f4] 39) = w1 := ⟨_, rfl⟩
                rw [hW1]
                have hxb : w1.cell? ⟨wo.heap.size, 1, none⟩ = some (.slice A1 wn c1) := by rw [← hW1]; exact cell_row (World.alloc_heap_new wo _) rfl
                have hb1 : Below wo.heap.size wo w1 := by rw [← hW1]; exact below_alloc (Below.refl _ _) _
                have HX1 := Lib.hid hxb
                have HB1 := Lib.hid hb1
                clear hW1 hxb hb1 x0 x1 x2 x3 x4
                obtain ⟨rb, hrb⟩ : ∃ rb, wo.heap.size = rb := ⟨_, rfl⟩
                rw [hrb] at HX1 ⊢
                clear hrb
                go_loopw [16, 20] (fun v i wi => ∃ (q : Nat) (la : Int), v = .int .i64 la ∧ i = .int .i64 q ∧ PlI (before from_ ra k) rw_.f1 w1 q la wi) (fun _ i _ => wn - (intOf i).toNat)
                case atStart => exact ⟨0, last, rfl, rfl, Nat.zero_le _, by rw [HSS.out.la]; simp [lst], Below.refl _ _⟩
                case round =>
                  obtain ⟨q, la, rfl, rfl, hI⟩ := hrel
                  obtain ⟨wi, rfl⟩ : ∃ wi : World, wi = wr := ⟨_, rfl⟩
                  have hqw : q ≤ wn := by have := hI.le; have := HWD.out.2; omega
                  have HI := Lib.hid hI
                  clear hI
                  by_cases hql : q < wn
                  · obtain ⟨y, hyy⟩ : ∃ y, rw_.f1.getD q 0 = y := ⟨_, rfl⟩
                    have HX := Lib.hid (fun W (h : Below w1.heap.size w1 W) => cell_later h HX1.out)
                    obtain ⟨adp, hA1, -⟩ := at_int (HG1.out _ HB1.out) q hql
                    have HQ := Lib.hid (show ∀ W, Below w1.heap.size w1 W → W.cell? (adp.add q) = some (.int .i64 y) from by
                      intro W h
                      obtain ⟨ad2, h1, h2⟩ := at_int (HG1.out W (below_on HB1.out h)) q hql
                      rw [hA1] at h1
                      cases h1
                      rw [hyy] at h2
                      exact h2)
                    subst hA1
                    have hx := HX.out _ HI.out.bel
                    have hxq := HQ.out _ HI.out.bel
                    have hq0 : (0 : Int) ≤ (q : Int) := by omega
                    have hq1 : (q : Int) < (wn : Int) := by omega
                    have hqb : (wn : Int) ≤ 9223372036854775807 := by have := (HG1.out _ HB1.out).2.1; omega
                    have hlt2 := lst_take (before from_ ra k) rw_.f1 q (by have := HWD.out.2; omega)
                    rw [hyy] at hlt2
                    by_cases hy : y = -1
                    · subst hy
                      rw [if_pos rfl] at hlt2
                      have HLT := Lib.hid hlt2
                      clear hlt2 hyy
                      go_wp2_with (first | (((with_reducible refine wpList_unguard ?_ ?_); (focus rfl))) | (((with_reducible refine wpList_pass ?_ (by kernel_rfl) ?_); (focus rfl))))
                      go_roundw
                      case rel => exact ⟨q + 1, la, rfl, by go_num, by have := HWD.out.2; omega, by rw [HLT.out]; exact HI.out.la, HI.out.bel⟩
                      case measure => simp [intOf]; omega
                    · rw [if_neg hy] at hlt2
                      have hy' : (y == -1) = false := by simpa using hy
                      obtain ⟨hl1, hl2, hat, m, j, r', hwh, hm, hj, hmj⟩ := HLE.out q hql y hyy hy
                      have hd3 : decide (y < la) = false := by rw [HI.out.la]; simp; omega
                      have hd4 : decide (nx < y) = false := by simp; omega
                      have HLT := Lib.hid hlt2
                      have HAT := Lib.hid (show ∀ W, Below w1.heap.size w1 W → Calls Tryd.prog 22 #[.slice (some ad) na c4, .int .i64 k, .int .i64 q] W (fun e w' => e = .returned (.tuple #[.int .i64 y, .bool true]) ∧ Below W.heap.size W w') from fun W h =>
                        (callsIn_wide.1 (at_any (some ad) c4 ra na HNA.out (k : Int) (q : Int) W (Kd.C_below HC4.out (below_on (below_on HSS.out.bel HB1.out) h)))).mono (by rintro e w' ⟨rfl, h2⟩; rw [hat]; exact ⟨rfl, h2.toBelow⟩))
                      have HWH := Lib.hid (show ∀ W, Below w1.heap.size w1 W → Calls Tryd.prog 20 #[.slice (some ad) na c4, .int .i64 y] W (fun e w' => e = .returned (.tuple #[.int .i64 m, .int .i64 j, .bool true]) ∧ Below W.heap.size W w') from fun W h =>
                        (where_any (some ad) c4 ra na HNA.out y W (Kd.C_below HC4.out (below_on (below_on HSS.out.bel HB1.out) h))).mono (by rintro e w' ⟨rfl, h2⟩; rw [hwh]; exact ⟨rfl, h2⟩))
                      have hml : m < ra.length := (List.getElem?_eq_some_iff.1 hm).1
                      have hmw := HWN.out r' (List.mem_of_getElem? hm)
                      have hjl : j < wn := by have := (List.getElem?_eq_some_iff.1 hj).1; omega
                      have hjy : r'.f1.getD j 0 = y := by simp [hj]
                      have hmr : rd_T39 ra (m : Int) = r' := by rw [rd_get ra m hml]; exact (List.getElem?_eq_some_iff.1 hm).2
                      have HM := Lib.hid (show ∀ W, Below w1.heap.size w1 W → ∃ adm dm, W.cell? ⟨(ad.add (m * 5)).block, (ad.add (m * 5)).off + 1, none⟩ = some (.slice (some adm) wn dm) ∧ W.cell? (adm.add j) = some (.int .i64 y) from by
                        intro W h
                        obtain ⟨ad', B0, d0, B1, d1, hA4', -, y1, -, -, -, -, -, -, g2⟩ := at_T39 (Kd.C_below HC4.out (below_on (below_on HSS.out.bel HB1.out) h)) (m : Int) (by omega) (by have := HNA.out; omega)
                        cases hA4'
                        rw [hmr, hmw.2, Int.toNat_natCast] at y1
                        rw [hmr, hmw.2] at g2
                        obtain ⟨adm, h1, h2⟩ := at_int g2 j hjl
                        rw [hjy] at h2
                        subst h1
                        exact ⟨adm, d1, y1, h2⟩)
                      have hm0 : (0 : Int) ≤ (m : Int) := by omega
                      have hm1 : (m : Int) < (na : Int) := by have := HNA.out; omega
                      have hj0 : (0 : Int) ≤ (j : Int) := by omega
                      have hj1 : (j : Int) < (wn : Int) := by omega
                      have hd5 : decide ((k : Int) < (m : Int)) = false := by simp; omega
                      clear hlt2 hyy hwh hat hm hj hml hmw hjl hjy hmr hl1 hl2
                      go_wp2_with (first | (((with_reducible refine wpList_unguard ?_ ?_); (focus rfl))) | (((with_reducible refine wpList_pass ?_ (by kernel_rfl) ?_); (focus rfl))))
                      refine (HAT.out _ HI.out.bel).mono ?_
                      rintro e w5 ⟨rfl, hb5⟩
                      have HB5 := Lib.hid (below_on HI.out.bel hb5)
                      have hx5 := HX.out _ HB5.out
                      have hxq5 := HQ.out _ HB5.out
                      clear hx hxq hb5
                      go_wp2_with (first | (((with_reducible refine wpList_unguard ?_ ?_); (focus rfl))) | (((with_reducible refine wpList_pass ?_ (by kernel_rfl) ?_); (focus rfl))))
                      refine (HWH.out _ HB5.out).mono ?_
                      rintro e w6 ⟨rfl, hb6⟩
                      have HB6 := Lib.hid (below_on HB5.out hb6)
                      have hx6 := HX.out _ HB6.out
                      have hxq6 := HQ.out _ HB6.out
                      obtain ⟨adm, dm, hm6, hj6⟩ := HM.out _ HB6.out
                      clear hx5 hxq5 hb6
                      by_cases hmk : m = k
                      · subst hmk
                        have hd6 : decide ((q : Int) < (j : Int)) = false := by simp; omega
                        go_wp2_with (first | (((with_reducible refine wpList_unguard ?_ ?_); (focus rfl))) | (((with_reducible refine wpList_pass ?_ (by kernel_rfl) ?_); (focus rfl))))
                        go_roundw
                        case rel => exact ⟨q + 1, y, rfl, by go_num, by have := HWD.out.2; omega, HLT.out.symm, HB6.out⟩
                        case measure => simp [intOf]; omega
                      · have hd6 : ((m : Int) == (k : Int)) = false := by simp; omega
                        go_wp2_with (first | (((with_reducible refine wpList_unguard ?_ ?_); (focus rfl))) | (((with_reducible refine wpList_pass ?_ (by kernel_rfl) ?_); (focus rfl))))
                        go_roundw
                        case rel => exact ⟨q + 1, y, rfl, by go_num, by have := HWD.out.2; omega, HLT.out.symm, HB6.out⟩
                        case measure => simp [intOf]; omega
                  · have hqn : q = wn := by omega
                    subst hqn
                    go_wp2_with (first | (((with_reducible refine wpList_unguard ?_ ?_); (focus rfl))) | (((with_reducible refine wpList_pass ?_ (by kernel_rfl) ?_); (focus rfl))))
                    go_roundw
                    case rel => exact ⟨k + 1, la, rfl, by go_num, by have := HNA.out; omega, by rw [HI.out.la, before_succ from_ ra k (by have := HNA.out; omega), HRW.out, List.take_of_length_le (by rw [HWD.out.2]; exact Nat.le_refl _)], below_on (below_on HSS.out.bel HB1.out) HI.out.bel⟩
                    case measure => simp [intOf]; omega
            · have hkn : k = na := by omega
              subst hkn
              have HD := Lib.hid hnp
              go_wp2_with (first | (((with_reducible refine wpList_unguard ?_ ?_); (focus rfl))) | (((with_reducible refine wpList_pass ?_ (by kernel_rfl) ?_); (focus rfl))))
              go_ret
              exact ⟨rfl, below_on HB4.out HSS.out.bel⟩
      · have hre := rowsP_none HRA.out he
        subst hre
        have hn0 : na = 0 := HNA.out.symm
        subst hn0
        have he' : (ea == 0) = false := by simpa using he
        have he2 : (ea != 0) = true := by simpa using he
        go_wp2_with (first | (((with_reducible refine wpList_unguard ?_ ?_); (focus rfl))) | (((with_reducible refine wpList_pass ?_ (by kernel_rfl) ?_); (focus rfl))))
        go_ret
        exact ⟨rfl, HB4.out⟩
end Go.Proofs.YtppjgofjjcdcdaaDoor

/- LayoutPlaces holds: whatever the input, the call returns true and the arguments read as they did (the two tables of unicode/utf8 as the text lays them); tied to the program's text. -/
namespace Go.Proofs.YtppjgofjjcdcdaaDoor.layoutPlaces
open Go.ChangeShapes Go.WideShapes Go.ChangeAt Go.RowKit Go.Proofs.YtppjgofjjcdcdaaDoor Go.Proofs.YtppjgofjjcdcdaaDoor.PLayoutRows Go.Proofs.YtppjgofjjcdcdaaDoorW.PrintWords
set_option maxRecDepth 100000 in
theorem lifted (os : Os) (started : os.Started) (H : Type) (enc : TypeId × Value → H) :
    ReturnsInHanded {} Tryd.checked os 6 .any (fun w args => (Rows.layoutPlacesSpec.pre enc Tryd.prog Tryd.f6 Rows.layoutPlacesRow.domain false w args ∧ laidMetH Tryd.prog laid2 w) ∧ sizedMet enc Tryd.prog Tryd.f6 (OpenSpec.ofChange Rows.layoutPlacesSpec) false w args)
      (Rows.layoutPlacesSpec.post enc Tryd.prog Tryd.f6 false true false false) := by
  refine returnsInHanded_of_change_and (C := Tryd.checked) (X := fun w _ => laidMetH Tryd.prog laid2 w) (fun _ _ _ hh h => h.of_heap hh) own started (by kernel_rfl) Tryd.func6
    (ChangeSpec.witness_shaped (enc := enc) (C := Tryd.checked) (os := os) (X := fun w _ => laidMetH Tryd.prog laid2 w) false (World.laidAll Tryd.prog os laid2) #[.slice none 0 0, .int .i64 0, .int .i64 0, .int .i64 0, .int .i64 0, .bool false] 8 (World.laidAll_os _ _ _)
      (World.shaped_of_ZipB (by kernel_rfl) (by kernel_rfl)) (by kernel_rfl) (by kernel_rfl) (by kernel_rfl)
      (by rw [MakeChecks.laidMetH_plain _ _ _ (by kernel_rfl)]; exact laidMet_laidAll _ (by kernel_rfl) (by kernel_rfl))) ?_
  intro W base args ds gs before hval0 hW _ _ hL _
  have hval : ∀ (j : Nat) t v, Tryd.f6.params[j]? = some t → args[j]? = some v → Value.okWide Tryd.prog W .any base t v := hval0
  have hW' := hW
  obtain ⟨p, q, hA0, hV, rfl, hfz, hnd⟩ := hW
  have hA : DataW.TrodAll enc Tryd.prog W 0 (fun _ => true) true Tryd.f6.params.toList args.toList ds p := hA0
  rw [Tryd.params6] at hA hval
  obtain ⟨v0, vs0, d0, ds0, p0, q0, hargs, rfl, rfl, h0, r0⟩ := trodAll_cons hA
  obtain ⟨v1, vs1, d1, ds1, p1, q1, rfl, rfl, rfl, h1, r1⟩ := trodAll_cons r0
  obtain ⟨v2, vs2, d2, ds2, p2, q2, rfl, rfl, rfl, h2, r2⟩ := trodAll_cons r1
  obtain ⟨v3, vs3, d3, ds3, p3, q3, rfl, rfl, rfl, h3, r3⟩ := trodAll_cons r2
  obtain ⟨v4, vs4, d4, ds4, p4, q4, rfl, rfl, rfl, h4, r4⟩ := trodAll_cons r3
  obtain ⟨v5, vs5, d5, ds5, p5, q5, rfl, rfl, rfl, h5, r5⟩ := trodAll_cons r4
  obtain ⟨rfl, rfl, rfl⟩ := trodAll_nil r5
  obtain rfl : args = #[v0, v1, v2, v3, v4, v5] := by cases args; simp_all
  obtain ⟨rfl, rfl⟩ := trodVars_none hV
  obtain ⟨a0, n0, c0, rfl⟩ := okWide_slice Tryd.underlying22 (hval 0 22 v0 rfl rfl)
  have k0 := h0
  have lt0 : ∀ x ∈ p0, x.block < W.heap.size := by obtain ⟨m, hm⟩ := k0; exact DataW.trod_lt m _ _ _ hm
  obtain ⟨l0, hn0, hc0, hC0⟩ := open_arg Tryd.underlying22 cellsOf55 opens_part h0
  obtain ⟨a1, rfl, rfl, rfl, w1⟩ := open_int Tryd.underlying3 (hval 1 3 v1 rfl rfl) h1
  obtain ⟨a2, rfl, rfl, rfl, w2⟩ := open_int Tryd.underlying3 (hval 2 3 v2 rfl rfl) h2
  obtain ⟨a3, rfl, rfl, rfl, w3⟩ := open_int Tryd.underlying3 (hval 3 3 v3 rfl rfl) h3
  obtain ⟨a4, rfl, rfl, rfl, w4⟩ := open_int Tryd.underlying3 (hval 4 3 v4 rfl rfl) h4
  obtain ⟨a5, rfl, rfl, rfl⟩ := open_bool Tryd.underlying4 (hval 5 4 v5 rfl rfl) h5
  clear hA0 hval0 hval
  refine (places_walk a0 n0 c0 l0 hn0 hc0 a1 a2 a3 a4 a5 W hC0 (tabs_of_laid hL)).mono fun e W' ⟨he, bel⟩ => ?_
  subst he
  exact ⟨_, rfl, _, _, _, [], _, [], hW', trodAll_mk1 (shut_bool Tryd.underlying4 _), (trodAll_cons_mk (Below.trod laidOut (by kernel_rfl) (of_decide_eq_true (by kernel_rfl)) k0 bel lt0) (trodAll_cons_mk (shut_int Tryd.underlying3 w1) (trodAll_cons_mk (shut_int Tryd.underlying3 w2) (trodAll_cons_mk (shut_int Tryd.underlying3 w3) (trodAll_cons_mk (shut_int Tryd.underlying3 w4) (trodAll_cons_mk (shut_bool Tryd.underlying4 _) trodAll_mk0)))))), rfl, bel.frame _, fun h => by cases h⟩
theorem over : Rows.layoutPlacesRow.holds Tryd.pinned (OpenSpec.ofChange Rows.layoutPlacesSpec) :=
  OpenClaim.holds_of_wide 6 Tryd.f6 rfl rfl rfl rfl rfl rfl rfl ⟨rfl, rfl, rfl, rfl, rfl⟩ rfl rfl rfl rfl rfl (by kernel_rfl) Tryd.func6 (by kernel_rfl)
    (of_decide_eq_true (by kernel_rfl)) (by unfold Func.isWrapper; first | (rw [if_pos (by decide +kernel)]; kernel_rfl) | (rw [if_neg (by decide +kernel)]; exact ⟨rfl, rfl⟩))
    (fun os started H enc _ => lifted os started H enc)
theorem card : Rows.LayoutPlacesCardSaid :=
  Claim7.holds_tied_plain_at .later [] [.data, .pinned] true Rows.layoutPlacesCard.stood.harness false over (fun _ h => by cases h) (by kernel_rfl) (fun _ h => by cases h) layoutPlaces_row_tie rfl ⟨rfl, rfl⟩ (by kernel_rfl) rfl
    (fun f fn hf hfn => by
      obtain rfl : f = 6 := Option.some.inj ((show Tryd.prog.funcNamed "copyist/copyistlaw35.LayoutPlaces" = some 6 by kernel_rfl).symm.trans hf) |>.symm
      obtain rfl : fn = Tryd.f6 := (Option.some.inj (Tryd.func6.symm.trans hfn)).symm
      exact ⟨by kernel_rfl, fun j t ht => by
        rw [Tryd.params6] at ht
        have hm : t ∈ [22, 3, 4] := by have := Array.mem_of_getElem? ht; simp at this ⊢; omega
        have hall : ([22, 3, 4].all fun u => !Tryd.prog.wantsStandIn u) = true := by kernel_rfl
        exact (show Tryd.prog.wantsStandIn t = false by simpa using List.all_eq_true.1 hall t hm)⟩)
    (by kernel_rfl)
#print axioms card
end Go.Proofs.YtppjgofjjcdcdaaDoor.layoutPlaces
namespace Go.Proofs.YtppjgofjjcdcdaaDoor
/-- The card, under a short name, for the claim. -/
theorem layoutPlaces_holds : Rows.LayoutPlacesCardSaid := layoutPlaces.card
end Go.Proofs.YtppjgofjjcdcdaaDoor
