/- The methods of layout's filler, each by what it does to its three blocks. -/
import Derived.WalkKit
import Derived.WalkSpells
import Derived.WalkLawsBesides
import Derived.RangeFuncNested
import Derived.RangeFuncLeaves
import Derived.Shelf.Abstract
import Derived.Scope
import Derived.RangeFuncSeq
import Derived.Test.YtppjgofjjcdcdaaDoorProg
import Derived.Deep.QuietTactic
import Derived.BigQuiet
import Derived.Lib.Hide
import Derived.Test.YtppjgofjjcdcdaaDoorShelf
import Derived.Deep.WholeRow
import Derived.RegionTactic
import Derived.BigRegion
set_option linter.unusedVariables false
set_option linter.unusedSimpArgs false
/- Small laws on worlds: which blocks a step may change (Fr), and what a block of cells holds behind stores. -/
namespace Go.Proofs.YtppjgofjjcdcdaaDoor
open Go.RowKit
/-- Of the blocks of W at most those in S have changed in W'; blocks may have been added. -/
structure Fr (S : Nat → Prop) (W W' : World) : Prop where
  os : W'.os = W.os
  tape : W'.tape = W.tape
  output : W'.output = W.output
  size : W.heap.size ≤ W'.heap.size
  block : ∀ b, b < W.heap.size → ¬ S b → W'.heap[b]? = W.heap[b]?
def Non : Nat → Prop := fun _ => False
theorem Fr.refl (S : Nat → Prop) (W : World) : Fr S W W := ⟨rfl, rfl, rfl, Nat.le_refl _, fun _ _ _ => rfl⟩
theorem Fr.trans {S : Nat → Prop} {A B C : World} (h : Fr S A B) (k : Fr S B C) : Fr S A C :=
  ⟨k.os.trans h.os, k.tape.trans h.tape, k.output.trans h.output, Nat.le_trans h.size k.size, fun b hb hs => (k.block b (Nat.lt_of_lt_of_le hb h.size) hs).trans (h.block b hb hs)⟩
theorem Fr.mono {S S' : Nat → Prop} {A B : World} (h : Fr S A B) (hs : ∀ b, b < A.heap.size → S b → S' b) : Fr S' A B :=
  ⟨h.os, h.tape, h.output, h.size, fun b hb hn => h.block b hb (fun hb' => hn (hs b hb hb'))⟩
theorem Fr.then {S S' : Nat → Prop} {A B C : World} (h : Fr S A B) (k : Fr S' B C) (hs : ∀ b, b < A.heap.size → S' b → S b) : Fr S A C :=
  ⟨k.os.trans h.os, k.tape.trans h.tape, k.output.trans h.output, Nat.le_trans h.size k.size, fun b hb hn => (k.block b (Nat.lt_of_lt_of_le hb h.size) (fun h' => hn (hs b hb h'))).trans (h.block b hb hn)⟩
theorem Fr.alloc {S : Nat → Prop} {A B : World} (h : Fr S A B) (o : Obj) : Fr S A (B.alloc o) :=
  h.trans ⟨rfl, rfl, rfl, by simp, fun b hb _ => Below.heap_alloc _ _ _ hb⟩
theorem Fr.drew {S : Nat → Prop} {A B : World} (h : Fr S A B) : Fr S A B.drew := ⟨h.os, h.tape, h.output, h.size, h.block⟩
theorem Fr.drewN {S : Nat → Prop} {A B : World} (h : Fr S A B) (n : Nat) : Fr S A (B.drewN n) := ⟨h.os, h.tape, h.output, h.size, h.block⟩
theorem Fr.setCell {S : Nat → Prop} {A B : World} (h : Fr S A B) (a : Addr) (v : Value) (ha : a.block < A.heap.size → S a.block) : Fr S A (B.setCell a v) :=
  ⟨h.os, h.tape, h.output, by simpa using h.size, fun b hb hn => by
    rw [Below.heap_setCell _ _ _ _ (by rintro rfl; exact hn (ha hb))]; exact h.block b hb hn⟩
theorem Fr.putObj {S : Nat → Prop} {A B : World} (h : Fr S A B) (r : Nat) (o : Obj) (ha : r < A.heap.size → S r) : Fr S A (B.putObj r o) :=
  ⟨h.os, h.tape, h.output, by simpa using h.size, fun b hb hn => by
    rw [World.putObj_heap_other (by rintro rfl; exact hn (ha hb))]; exact h.block b hb hn⟩
theorem Fr.of_below {S : Nat → Prop} {A B : World} {n : Nat} (h : Below n A B) (hs : ∀ b, n ≤ b → b < A.heap.size → S b) : Fr S A B :=
  ⟨h.os, h.tape, h.output, h.size, fun b hb hn => h.block b (by
    rcases Nat.lt_or_ge b n with h1 | h1
    · exact h1
    · exact absurd (hs b h1 hb) hn)⟩
theorem Fr.below {S : Nat → Prop} {A B : World} {n : Nat} (h : Fr S A B) (hn : n ≤ A.heap.size) (hs : ∀ b, b < n → ¬ S b) : Below n A B :=
  ⟨h.os, h.tape, h.output, h.size, fun b hb => h.block b (by omega) (hs b hb)⟩
theorem Fr.grown {S : Nat → Prop} {A B C : World} {row : Option Nat} (h : Fr S A B) (hg : B.grownBy C row) (hr : ∀ k, row = some k → k < A.heap.size → S k) : Fr S A C :=
  ⟨hg.os.trans h.os, hg.tape.trans h.tape, hg.output.trans h.output, Nat.le_trans h.size hg.size, fun b hb hn =>
    (hg.block b (Nat.lt_of_lt_of_le hb h.size) (fun e => hn (hr b e.symm hb))).trans (h.block b hb hn)⟩
/-- A block of the old world that is not in S. -/
theorem Fr.at {S : Nat → Prop} {A B : World} (h : Fr S A B) {b : Nat} {o : Obj} (ho : A.heap[b]? = some o) (hn : ¬ S b) : B.heap[b]? = some o :=
  (h.block b (lt_of_block ho) hn).trans ho
theorem hs_other {w : World} {b c j : Nat} {v : Value} {o : Obj} (h : w.heap[b]? = some o) (hne : b ≠ c) : (w.setCell ⟨c, j, none⟩ v).heap[b]? = some o :=
  (Below.heap_setCell _ _ _ _ hne).trans h
theorem hs_same {w : World} {g i : Nat} {cs : Array Value} {t : TypeId} {v : Value} (hg : w.heap[g]? = some (.cells cs t (0, 0))) : (w.setCell ⟨g, i, none⟩ v).heap[g]? = some (.cells (cs.setIfInBounds i v) t (0, 0)) :=
  heap_setCell_same w g i cs t v hg
theorem hd_drew {w : World} {b : Nat} {o : Obj} (h : w.heap[b]? = some o) : w.drew.heap[b]? = some o := h
theorem hd_alloc {w : World} {b : Nat} {o o' : Obj} (h : w.heap[b]? = some o) : (w.alloc o').heap[b]? = some o := (Below.heap_alloc _ _ _ (lt_of_block h)).trans h
theorem cell_row {w : World} {g j : Nat} {cs : Array Value} {t : TypeId} {fr : Nat × Nat} {v : Value} (hg : w.heap[g]? = some (.cells cs t fr)) (hj : cs[j]? = some v) : w.cell? ⟨g, j, none⟩ = some v := (cell_of_row w g j cs t fr hg).trans hj
theorem free_row {w : World} {g j : Nat} {cs : Array Value} {t : TypeId} (hg : w.heap[g]? = some (.cells cs t (0, 0))) : w.frozen? ⟨g, j, none⟩ = false := frozen_of_row w g j cs t hg
theorem ints_set (P : List Int) (n : Nat) (v : Int) : ((P.map (Value.int .i64)).toArray).setIfInBounds n (.int .i64 v) = ((P.set n v).map (Value.int .i64)).toArray := by
  simp [List.map_set]
theorem ints_at (P : List Int) (n : Nat) (h : n < P.length) : ((P.map (Value.int .i64)).toArray)[n]? = some (.int .i64 (P.getD n 0)) := by
  simp [h]
theorem ho_other {w : World} {b c : Nat} {o o' : Obj} (h : w.heap[b]? = some o) (hne : b ≠ c) : (w.putObj c o').heap[b]? = some o := (World.putObj_heap_other hne).trans h
theorem ho_same {w : World} {b : Nat} {o o' : Obj} (h : w.heap[b]? = some o) : (w.putObj b o').heap[b]? = some o' := World.putObj_heap_same (lt_of_block h)
end Go.Proofs.YtppjgofjjcdcdaaDoor

/- A range over a function and its rounds, at the wide fence, with the world's facts stated block by block. -/
namespace Go.Proofs.YtppjgofjjcdcdaaDoor
open Go.RowKit
variable {P : Program}
/-- A loop's record by its state and its pending jump. -/
structure Rec where
  fn : FuncId
  tmps : Array Value
  params : Array Tmp
  assign : Code
  body : Code
  defers : Nat
def Rec.at (r : Rec) (st : LoopState) (pe : Option Code) : Obj := .loop { state := st, pending := pe, fn := r.fn, tmps := r.tmps, params := r.params, assign := r.assign, body := r.body, defers := r.defers }
section
variable {b : Frame} {a : Act} {k : List Item} {cs : List Frame} {w : World} {Q : Exit → Act → World → Prop}
theorem stepR_scope' {c : Code} : step P (lone (b.atR a (.code (.scope c) :: k)) cs w) = .next (lone (b.atR a (.code c :: .inScope c :: k)) cs w) :=
  step_lone_go (by simp [stepG, stepG.exec, Frame.atR])
theorem stepR_inScope' {c : Code} : step P (lone (b.atR a (.inScope c :: k)) cs w) = .next (lone (b.atR a k) cs w) :=
  step_lone_go (by simp [stepG, stepG.exec, Frame.atR])
/-- A scope through which the run goes without a goto, in no round. -/
theorem wpIn_scope_wide {n : Nat} {c : Code} (h : c.wpIn Fence.wide n P (Exit.noGoto Q) a w) : (Code.scope c).wpIn Fence.wide n P Q a w := by
  intro b k cs hro hb hr
  obtain ⟨e, a₁, w₁, hq, harr⟩ := h b (.inScope c :: k) cs hro hb hr
  have h0 : (lone (b.atR a (.code (.scope c) :: k)) cs w).fenced P Fence.wide := fenced_wide P _
  have hn : b.roundOf = none := hro
  cases e with
  | normal => exact ⟨.normal, a₁, w₁, hq, .head h0 stepR_scope' (StepsIn.trans harr (.one (fenced_wide P _) stepR_inScope'))⟩
  | exit id => exact ⟨.exit id, a₁, w₁, hq, fun k' hk => .head h0 stepR_scope' (harr.1 k' (by simp [exitTo, hk])), fun h => by rw [hn] at h; cases h⟩
  | goto l => exact hq.elim
  | ret => exact ⟨_, a₁, w₁, hq, .of_steps (.one h0 stepR_scope') harr⟩
  | panic ch => exact ⟨_, a₁, w₁, hq, .of_steps (.one h0 stepR_scope') harr⟩
  | outgrown => exact ⟨_, a₁, w₁, hq, .of_steps (.one h0 stepR_scope') harr⟩
end
/-- The range over a function that a piece of code holds: how a round begins, and its body. -/
def rangeOf : Code → Option (Code × Code)
  | .rangeFunc _ _ a b => some (a, b)
  | .seq x y => (rangeOf x).or (rangeOf y)
  | .block _ x => rangeOf x
  | .scope x => rangeOf x
  | _ => none
def assignOf (f : Func) : Code := ((f.body.bind rangeOf).map (·.1)).getD .skip
def bodyOf (f : Func) : Code := ((f.body.bind rangeOf).map (·.2)).getD .skip
/-- How a round may end. -/
def rPost (r : Rec) (l : Nat) (G : World → Prop) (S : Code → World → Prop) : Exit → Act → World → Prop
  | .normal, _, w => w.heap[l]? = some (r.at .busy none) ∧ G (w.putObj l (r.at .ready none))
  | .ret, _, w => w.heap[l]? = some (r.at .busy none) ∧ S .ret (w.putObj l (r.at .done (some .ret)))
  | .exit id, _, w => w.heap[l]? = some (r.at .busy none) ∧ S (.exit id) (w.putObj l (r.at .done (some (.exit id))))
  | _, _, _ => False
/-- yield, called with args in the world W: the round's contract. -/
def Yields (P : Program) (r : Rec) (l : Nat) (args : Array Value) (W : World) (G : World → Prop) (S : Code → World → Prop) : Prop :=
  RoundIn Fence.wide 0 P l r.fn ((r.params.zip args).foldl (fun tmps (t, a) => tmps.setIfInBounds t a) r.tmps) r.assign r.body W
    (fun e W' => (e = .returned (.bool true) ∧ G W') ∨ (e = .returned (.bool false) ∧ ∃ c, S c W'))
theorem round_wide {n : Nat} {l' : Nat} {l : Nat} {f : FuncId} {tmps : Array Value} {assign body : Code} {w : World} {R : Ending → World → Prop} (h : RoundIn Fence.wide 0 P l f tmps assign body w R) :
    RoundIn (Fence.wide.inRound l') n P l f tmps assign body w R := ⟨trivial, fun c cs _ => h.2 c cs (room_wide _)⟩
theorem round_wide0 {n : Nat} {l : Nat} {f : FuncId} {tmps : Array Value} {assign body : Code} {w : World} {R : Ending → World → Prop} (h : RoundIn Fence.wide 0 P l f tmps assign body w R) :
    RoundIn Fence.wide n P l f tmps assign body w R := ⟨trivial, fun c cs _ => h.2 c cs (room_wide _)⟩
theorem run_yield_at {r : Rec} {l : Nat} {args : Array Value} {W : World} (h : W.heap[l]? = some (r.at .ready none)) (hs : args.size = r.params.size) :
    (Instr.yield l args).run P W = .ok (.round l r.fn ((r.params.zip args).foldl (fun tmps (t, a) => tmps.setIfInBounds t a) r.tmps) r.assign r.body) W := run_yield (P := P) h hs
/-- One round out of its body's walk. -/
theorem yields_of {r : Rec} {l : Nat} {args : Array Value} {W : World} {G : World → Prop} {S : Code → World → Prop}
    (h : r.assign.wpIn (Fence.wide.inRound l) 0 P (Exit.then (fun a₁ w₁ => w₁.heap[l]? = some (r.at .ready none) ∧ r.body.wpIn (Fence.wide.inRound l) 0 P (rPost r l G S) a₁ (w₁.putObj l (r.at .busy none))) (fun _ _ _ => False))
      { tmps := (r.params.zip args).foldl (fun tmps (t, a) => tmps.setIfInBounds t a) r.tmps, defers := [] } W) : Yields P r l args W G S := by
  refine roundIn_of_wpIn (F := Fence.wide) trivial (wpIn_mono h ?_)
  intro e a w hq
  cases e with
  | normal =>
    obtain ⟨hl, hb⟩ := hq
    refine ⟨_, run_beginRound hl rfl, ?_⟩
    refine wpIn_mono hb ?_
    intro e a w hp
    cases e with
    | normal => exact ⟨_, _, run_endRound (P := P) none hp.1, .inl ⟨rfl, hp.2⟩⟩
    | ret => exact ⟨_, _, run_endRound (P := P) (some .ret) hp.1, .inr ⟨rfl, _, hp.2⟩⟩
    | exit id => exact ⟨_, _, run_endRound (P := P) (some (.exit id)) hp.1, .inr ⟨rfl, _, hp.2⟩⟩
    | goto t => exact hp.elim
    | panic ch => exact hp.elim
    | outgrown => exact hp.elim
  | _ => exact hq.elim
theorem yields_lit {r : Rec} {fn : FuncId} {tmps : Array Value} {params : Array Tmp} {assign body : Code} {D : Nat} (hr : Rec.mk fn tmps params assign body D = r) {l : Nat} {args : Array Value} {W : World} {G : World → Prop} {S : Code → World → Prop}
    (h : assign.wpIn (Fence.wide.inRound l) 0 P (Exit.then (fun a₁ w₁ => w₁.heap[l]? = some (r.at .ready none) ∧ body.wpIn (Fence.wide.inRound l) 0 P (rPost r l G S) a₁ (w₁.putObj l (r.at .busy none))) (fun _ _ _ => False))
      { tmps := (params.zip args).foldl (fun tmps (t, a) => tmps.setIfInBounds t a) tmps, defers := [] } W) : Yields P r l args W G S := by
  subst hr
  exact yields_of h
theorem Yields.mono {r : Rec} {l : Nat} {args : Array Value} {W : World} {G G' : World → Prop} {S S' : Code → World → Prop} (h : Yields P r l args W G S) (hg : ∀ W, G W → G' W) (hs : ∀ c W, S c W → S' c W) : Yields P r l args W G' S' :=
  RoundIn.mono h (fun e W' hh => by
    rcases hh with ⟨he, hw⟩ | ⟨he, c, hw⟩
    · exact .inl ⟨he, hg _ hw⟩
    · exact .inr ⟨he, c, hs _ _ hw⟩)
/-- The statement, from the iterator's contract. -/
theorem range_law {g : Operand} {ps : Array Tmp} {assign body : Code} {Q : Exit → Act → World → Prop} {a : Act} {w : World} {gf : Nat} {lb : Array Value} (hg : a.eval g = .func (.func gf) #[] lb)
    (eg : ∀ args w, (callFunc gf args).run P w = .ok (.enter gf args) w)
    (h : ∀ fn : FuncId, Calls P gf (#[.func (.yield (w.heap.size + 1)) #[] #[]] ++ lb)
        ((w.alloc (.deferred (some []))).alloc ((Rec.mk fn a.tmps ps assign body w.heap.size).at .ready none)) fun e W2 => (∃ v, e = .returned v) ∧
        ((W2.heap[w.heap.size + 1]? = some ((Rec.mk fn a.tmps ps assign body w.heap.size).at .ready none) ∧
            Q .normal { a with defers := { target := .collected w.heap.size, args := #[] } :: a.defers } (W2.putObj (w.heap.size + 1) ((Rec.mk fn a.tmps ps assign body w.heap.size).at .exhausted none))) ∨
         (∃ c, W2.heap[w.heap.size + 1]? = some ((Rec.mk fn a.tmps ps assign body w.heap.size).at .done (some c)) ∧
            c.wpIn Fence.wide 0 P Q { a with defers := { target := .collected w.heap.size, args := #[] } :: a.defers } (W2.putObj (w.heap.size + 1) ((Rec.mk fn a.tmps ps assign body w.heap.size).at .exhausted (some c)))))) :
    (Code.rangeFunc g ps assign body).wpIn Fence.wide 0 P Q a w := by
  refine wpIn_rangeFunc ?_
  intro fn _
  have hc := h fn
  obtain ⟨W1, hW1⟩ : ∃ W1, (w.alloc (.deferred (some []))).alloc ((Rec.mk fn a.tmps ps assign body w.heap.size).at .ready none) = W1 := ⟨_, rfl⟩
  rw [hW1] at hc
  refine ⟨w.heap.size + 1, [{ target := .collected w.heap.size, args := #[] }], W1, { target := .fn (.func gf) lb, args := #[.func (.yield (w.heap.size + 1)) #[] #[]] }, W1, gf,
    #[.func (.yield (w.heap.size + 1)) #[] #[]] ++ lb, W1, ?_, ?_, ?_, ?_, fun h => by simp [Fence.wide] at h, ?_⟩
  · rw [← hW1]; exact run_enterLoop_outer _ _ _ _ _
  · simp only [resolve, hg]
    simp [go_sem]
  · exact fun _ _ => trivial
  · simp [invoke, go_sem, eg]
  · refine callsIn_wide.2 (hc.mono ?_)
    rintro e W2 ⟨⟨v, rfl⟩, (⟨hl, hq⟩ | ⟨c, hl, hq⟩)⟩
    · exact ⟨none, _, run_endLoop (P := P) hl (by simp), hq⟩
    · exact ⟨some c, _, run_endLoop (P := P) hl (by simp), hq⟩
end Go.Proofs.YtppjgofjjcdcdaaDoor

/- What a loop over a function is to the function that it calls: a consumer, with the blocks that it may change. -/
namespace Go.Proofs.YtppjgofjjcdcdaaDoor
open Go.RowKit
/-- From W to W' only blocks in O have changed; what may change next, O', is old or new since W. -/
def Step (O O' : Nat → Prop) (W W' : World) : Prop := Fr O W W' ∧ ∀ b, O' b → O b ∨ W.heap.size ≤ b
theorem Step.refl (O : Nat → Prop) (W : World) : Step O O W W := ⟨Fr.refl _ _, fun _ h => .inl h⟩
theorem Step.trans {O O1 O2 : Nat → Prop} {W W1 W2 : World} (h : Step O O1 W W1) (k : Step O1 O2 W1 W2) : Step O O2 W W2 := by
  refine ⟨h.1.then k.1 ?_, ?_⟩
  · intro b hb h1
    rcases h.2 b h1 with h2 | h2
    · exact h2
    · omega
  · intro b h2
    rcases k.2 b h2 with h3 | h3
    · exact h.2 b h3
    · exact .inr (Nat.le_trans h.1.size h3)
theorem Step.own {O O1 T : Nat → Prop} {W W1 W2 : World} (h : Step O O1 W W1) (k : Fr T W1 W2) (hT : ∀ b, b < W1.heap.size → T b → W.heap.size ≤ b) : Step O O1 W W2 := by
  refine ⟨h.1.then k ?_, h.2⟩
  intro b hb ht
  have := hT b (Nat.lt_of_lt_of_le hb h.1.size) ht
  omega
theorem Step.at {O O' : Nat → Prop} {W W' : World} (h : Step O O' W W') {b : Nat} {o : Obj} (ho : W.heap[b]? = some o) (hn : ¬ O b) : W'.heap[b]? = some o := h.1.at ho hn
theorem Step.not {O O' : Nat → Prop} {W W' : World} (h : Step O O' W W') {b : Nat} (hb : b < W.heap.size) (hn : ¬ O b) : ¬ O' b := by
  intro hb'
  rcases h.2 b hb' with h1 | h1
  · exact hn h1
  · omega
theorem Step.below {O O' : Nat → Prop} {W W' : World} (h : Step O O' W W') {n : Nat} (hn : n ≤ W.heap.size) (hO : ∀ b, O b → n ≤ b) : Below n W W' :=
  h.1.below hn (fun b hb hO' => by have := hO b hO'; omega)
/-- A consumer of α: its record, its block; J xs O W: it has taken xs and goes on, O being the blocks that it may change; D: it has taken xs and stops. -/
structure Cons (P : Program) (α : Type) where
  r : Rec
  l : Nat
  lo : Nat
  base : Nat
  stop : Code
  items : List α
  J : List α → (Nat → Prop) → World → Prop
  D : List α → (Nat → Prop) → World → Prop
  Rep : α → Array Value → World → (Nat → Prop) → Prop
  ready : ∀ {xs O W}, J xs O W → W.heap[l]? = some (r.at .ready none) ∧ O l
  done : ∀ {xs O W}, D xs O W → W.heap[l]? = some (r.at .done (some stop)) ∧ O l
  own : ∀ {xs O W}, J xs O W → ∀ b, O b → base ≤ b
  ownD : ∀ {xs O W}, D xs O W → ∀ b, O b → base ≤ b
  stable : ∀ {xs O W W' T}, J xs O W → Fr T W W' → (∀ b, b < W.heap.size → T b → ¬ O b ∧ lo ≤ b) → J xs O W'
  stableD : ∀ {xs O W W' T}, D xs O W → Fr T W W' → (∀ b, b < W.heap.size → T b → ¬ O b ∧ lo ≤ b) → D xs O W'
  lt : ∀ {xs O W}, J xs O W → ∀ {b}, O b → b < W.heap.size
  args : ∀ {x a W O}, Rep x a W O → a.size = r.params.size
  step : ∀ {xs x a O W}, xs ++ [x] <+: items → J xs O W → Rep x a W O → Yields P r l a W (fun W' => ∃ O', J (xs ++ [x]) O' W' ∧ Step O O' W W') (fun _ W' => ∃ O', D (xs ++ [x]) O' W' ∧ Step O O' W W')
theorem Cons.yield {P : Program} {α : Type} (c : Cons P α) {xs : List α} {x : α} {a : Array Value} {O : Nat → Prop} {W : World} (hi : xs ++ [x] <+: c.items) (hJ : c.J xs O W) (hR : c.Rep x a W O) :
    ∃ tmps, (Instr.yield c.l a).run P W = .ok (.round c.l c.r.fn tmps c.r.assign c.r.body) W ∧
      RoundIn Fence.wide 0 P c.l c.r.fn tmps c.r.assign c.r.body W (fun e W' => (e = .returned (.bool true) ∧ ∃ O', c.J (xs ++ [x]) O' W' ∧ Step O O' W W') ∨ (e = .returned (.bool false) ∧ ∃ O', c.D (xs ++ [x]) O' W' ∧ Step O O' W W')) := by
  refine ⟨_, run_yield_at (c.ready hJ).1 (c.args hR), ?_⟩
  refine RoundIn.mono (c.step hi hJ hR) ?_
  rintro e W' (h | ⟨h, _, h'⟩)
  · exact .inl h
  · exact .inr ⟨h, h'⟩
/-- What an iterator does with a consumer: it hands it all items, or a beginning of them. -/
def Feeds {P : Program} {α : Type} (c : Cons P α) (O : Nat → Prop) (W W' : World) : Prop :=
  ∃ O', Step O O' W W' ∧ (c.J c.items O' W' ∨ ∃ ys, ys <+: c.items ∧ c.D ys O' W')
theorem Step.or {O O' : Nat → Prop} {W W' : World} (h : Step O O' W W') (T : Nat → Prop) : Step (fun b => O b ∨ T b) (fun b => O' b ∨ T b) W W' := by
  refine ⟨h.1.mono (fun _ _ hb => .inl hb), ?_⟩
  rintro b (hb | hb)
  · rcases h.2 b hb with h1 | h1
    · exact .inl (.inl h1)
    · exact .inr h1
  · exact .inl (.inr hb)
/-- Changes within O, or of blocks that are new since W. -/
theorem Step.fr {O O1 T : Nat → Prop} {W W1 W2 : World} (h : Step O O1 W W1) (k : Fr T W1 W2) (hT : ∀ b, b < W1.heap.size → T b → O b ∨ W.heap.size ≤ b) : Step O O1 W W2 := by
  refine ⟨h.1.then k ?_, h.2⟩
  intro b hb ht
  rcases hT b (Nat.lt_of_lt_of_le hb h.1.size) ht with h1 | h1
  · exact h1
  · omega
end Go.Proofs.YtppjgofjjcdcdaaDoor

/- runes.Width: which of the tables' spans holds a character. -/
namespace Go.Proofs.YtppjgofjjcdcdaaDoor
open Go.RowKit
def spanV (S : List (Int × Int)) : List Value := S.flatMap fun s => [.int .i64 s.1, .int .i64 s.2]
theorem spanV_at : ∀ (S : List (Int × Int)) (i : Nat), i < S.length → (spanV S)[i * 2]? = some (.int .i64 (S.getD i (0, 0)).1) ∧ (spanV S)[i * 2 + 1]? = some (.int .i64 (S.getD i (0, 0)).2)
  | [], i, h => by simp at h
  | s :: S, 0, _ => by simp [spanV]
  | s :: S, i + 1, h => by
    have ih := spanV_at S i (by simpa using h)
    have e : (i + 1) * 2 = i * 2 + 1 + 1 := by omega
    rw [e]
    simpa [spanV] using ih
set_option maxHeartbeats 400000 in
theorem inf_any (sb xb b i : Nat) (c : Int) (S : List (Int × Int)) (T : TypeId) (w : World) (h1 : w.cell? ⟨sb, 0, none⟩ = some (.slice (some ⟨b, 0, none⟩) S.length S.length)) (h2 : w.cell? ⟨xb, 0, none⟩ = some (.int .i64 c))
    (hb : w.heap[b]? = some (.cells (spanV S).toArray T (0, 0))) (hi : i < S.length) :
    Calls Tryd.prog 80 #[.int .i64 i, .pointer (some ⟨sb, 0, none⟩), .pointer (some ⟨xb, 0, none⟩)] w fun e w' => e = .returned (.bool (decide (c ≤ (S.getD i (0, 0)).2))) ∧ ∃ q, w' = w.drewN q := by
  have e1 : w.cell? ⟨b, i * 2 + 1, none⟩ = some (.int .i64 (S.getD i (0, 0)).2) := cell_row hb (by simpa using (spanV_at S i hi).2)
  obtain ⟨k, hk⟩ : ∃ k, S.length = k := ⟨_, rfl⟩
  obtain ⟨t, ht⟩ : ∃ t, (S.getD i (0, 0)).2 = t := ⟨_, rfl⟩
  rw [hk] at h1 hi
  rw [ht] at e1 ⊢
  clear hk ht hb
  go_enter Tryd.func80, Tryd.ntmps80
  go_wp2
  go_quiet (fail)
  go_wp2
  go_ret
  exact ⟨rfl, _, rfl⟩
open Go.Sort in
theorem grown_heap {w : World} {b : Nat} {o : Obj} (h : w.heap[b]? = some o) (m : Nat) (os : Array Obj) : (grow (w.drewN m) os).heap[b]? = some o := by
  have hb := lt_of_block h
  show (w.heap ++ os)[b]? = some o
  rw [Array.getElem?_append_left hb]
  exact h
/-- What runes.in answers. -/
def inSp (c : Int) (S : List (Int × Int)) : Bool :=
  let i := (List.range S.length).countP fun i => !decide (c ≤ (S.getD i (0, 0)).2)
  decide (i < S.length) && decide ((S.getD i (0, 0)).1 ≤ c)
theorem grow_nil (W : World) : Go.Sort.grow W #[] = W := by
  show { W with heap := W.heap ++ #[] } = W
  rw [Array.append_empty]
theorem fr_grow {w : World} (m : Nat) (os : Array Obj) : Fr Non w (Go.Sort.grow (w.drewN m) os) :=
  ⟨rfl, rfl, rfl, by show w.heap.size ≤ (w.heap ++ os).size; simp, fun b hb _ => by show (w.heap ++ os)[b]? = _; rw [Array.getElem?_append_left hb]⟩
set_option maxHeartbeats 400000 in
theorem in_any (b : Nat) (c : Int) (S : List (Int × Int)) (T : TypeId) (w : World) (hb : w.heap[b]? = some (.cells (spanV S).toArray T (0, 0))) (hl : S.length ≤ 1000000)
    (hm : ∀ i j, i ≤ j → j < S.length → (S.getD i (0, 0)).2 ≤ (S.getD j (0, 0)).2) :
    Calls Tryd.prog 78 #[.int .i64 c, .slice (some ⟨b, 0, none⟩) S.length S.length] w fun e w' => e = .returned (.bool (inSp c S)) ∧ Fr Non w w' := by
  have HS := Any.sort_Search Tryd.laysSearch 80 #[.pointer (some ⟨w.heap.size + 1, 0, none⟩), .pointer (some ⟨w.heap.size, 0, none⟩)] S.length (fun i => decide (c ≤ (S.getD i (0, 0)).2))
    ((w.alloc (.cells #[.int .i64 c] 3)).alloc (.cells #[.slice (some ⟨b, 0, none⟩) S.length S.length] 137)) (enters_of Tryd.func80 (by kernel_rfl) rfl) (by omega)
    (fun m os i hi => (inf_any (w.heap.size + 1) w.heap.size b i c S T _ (cell_of_one (grown_heap (heap_alloc2_new w _ _) m os)) (cell_of_one (grown_heap (heap_alloc2_old w _ _) m os)) (grown_heap (hd_alloc (hd_alloc hb)) m os) hi).mono (by rintro e w' ⟨rfl, q, rfl⟩; exact ⟨rfl, q, #[], (grow_nil _).symm⟩))
    (fun i j hij hj h => by
      have := hm i j hij hj
      simp only [decide_eq_true_eq] at h ⊢
      omega)
  change Calls Tryd.prog 79 _ _ _ at HS
  obtain ⟨n, hn⟩ : ∃ n, (List.range S.length).countP (fun i => !decide (c ≤ (S.getD i (0, 0)).2)) = n := ⟨_, rfl⟩
  have hIn : inSp c S = (decide (n < S.length) && decide ((S.getD n (0, 0)).1 ≤ c)) := by unfold inSp; rw [hn]
  rw [hn] at HS
  rw [hIn]
  have Hc : Hid (∀ i, i < S.length → _) := fun i hi => (spanV_at S i hi).1
  have HB := Lib.hid hb
  have HL := Lib.hid hl
  clear hIn hb hn hm hl
  obtain ⟨k, hk⟩ : ∃ k, S.length = k := ⟨_, rfl⟩
  rw [hk] at HS ⊢
  have HK := Lib.hid hk
  clear hk
  have HX := Lib.hid HS
  clear HS
  go_enter Tryd.func78, Tryd.ntmps78
  go_wp2_with fail
  refine HX.out.mono ?_
  rintro e W ⟨rfl, q, os, hW⟩
  have fw := fr_grow (w := (w.alloc (.cells #[.int .i64 c] 3)).alloc (.cells #[.slice (some ⟨b, 0, none⟩) k k] 137)) q os
  rw [← hW] at fw
  have hb2 : W.heap[b]? = some (.cells (spanV S).toArray T (0, 0)) := fw.at (hd_alloc (hd_alloc HB.out)) id
  have c1 : W.cell? ⟨w.heap.size + 1, 0, none⟩ = some (.slice (some ⟨b, 0, none⟩) k k) := cell_of_one (fw.at (heap_alloc2_new w _ _) id)
  have c0 : W.cell? ⟨w.heap.size, 0, none⟩ = some (.int .i64 c) := cell_of_one (fw.at (heap_alloc2_old w _ _) id)
  have HF : Fr Non w W := ((Fr.refl _ _).alloc _).alloc _ |>.trans fw
  clear hW fw
  have HF' := Lib.hid HF
  clear HF
  have hk1 : k ≤ 1000000 := by have := HL.out; have := HK.out; omega
  by_cases h : n < k
  · have e0 : W.cell? ⟨b, n * 2, none⟩ = some (.int .i64 (S.getD n (0, 0)).1) := cell_row hb2 (by simpa using Hc.out n (by have := HK.out; omega))
    clear hb2
    obtain ⟨t, ht⟩ : ∃ t, (S.getD n (0, 0)).1 = t := ⟨_, rfl⟩
    rw [ht] at e0
    have HT := Lib.hid ht
    clear ht
    have d1 : decide (n < k) = true := by simp [h]
    go_wp2
    go_quiet (fail)
    go_wp2
    go_ret
    exact ⟨by rw [HT.out]; simp [h], HF'.out.drewN _⟩
  · clear hb2
    have d1 : decide ((n : Int) < (k : Int)) = false := by simp; omega
    have d2 : decide (n < k) = false := by simp; omega
    go_wp2
    go_quiet (fail)
    go_wp2
    go_ret
    exact ⟨by rw [d2]; rfl, HF'.out.drewN _⟩
def isC (c : Int) : Bool := decide (0 ≤ c ∧ c ≤ 1114111 ∧ ¬ (55296 ≤ c ∧ c ≤ 57343))
set_option maxHeartbeats 400000 in
theorem is_any (c : Int) (w : World) : Calls Tryd.prog 77 #[.int .i64 c] w fun e w' => e = .returned (.bool (isC c)) ∧ w = w' := by
  obtain ⟨r, hr⟩ : ∃ r, isC c = r := ⟨_, rfl⟩
  rw [hr]
  have HR := Lib.hid hr
  clear hr
  by_cases h1 : 0 ≤ c
  · by_cases h2 : c ≤ 1114111
    · by_cases h3 : 55296 ≤ c
      · by_cases h4 : c ≤ 57343
        · go_enter Tryd.func77, Tryd.ntmps77
          go_wp2
          go_ret
          exact ⟨by rw [← HR.out]; simp [isC]; omega, rfl⟩
        · go_enter Tryd.func77, Tryd.ntmps77
          go_wp2
          go_ret
          exact ⟨by rw [← HR.out]; simp [isC]; omega, rfl⟩
      · go_enter Tryd.func77, Tryd.ntmps77
        go_wp2
        go_ret
        exact ⟨by rw [← HR.out]; simp [isC]; omega, rfl⟩
    · go_enter Tryd.func77, Tryd.ntmps77
      go_wp2
      go_ret
      exact ⟨by rw [← HR.out]; simp [isC]; omega, rfl⟩
  · go_enter Tryd.func77, Tryd.ntmps77
    go_wp2
    go_ret
    exact ⟨by rw [← HR.out]; simp [isC]; omega, rfl⟩
def zeroS : List (Int × Int) := [(0x300, 0x36f), (0x483, 0x489), (0x591, 0x5bd), (0x200b, 0x200f), (0x20d0, 0x20ff), (0xfe00, 0xfe0f), (0xfe20, 0xfe2f)]
def twoS : List (Int × Int) := [(0, 8), (10, 31), (127, 127), (0x1100, 0x115f), (0x2e80, 0x303e), (0x3041, 0xa4cf), (0xac00, 0xd7a3), (0xf900, 0xfaff), (0xfe30, 0xfe6f), (0xff00, 0xff60), (0xffe0, 0xffe6), (0x1f300, 0x1f64f), (0x1f900, 0x1f9ff), (0x20000, 0x3fffd)]
def widthP (c : Int) : Int := if isC c = false ∨ inSp c zeroS = true then 0 else if inSp c twoS = true then 2 else 1
def mono2 (S : List (Int × Int)) : Bool := (List.range S.length).all fun j => (List.range (j + 1)).all fun i => decide ((S.getD i (0, 0)).2 ≤ (S.getD j (0, 0)).2)
theorem mono2_of {S : List (Int × Int)} (h : mono2 S = true) : ∀ i j, i ≤ j → j < S.length → (S.getD i (0, 0)).2 ≤ (S.getD j (0, 0)).2 := by
  intro i j hij hj
  have h1 := List.all_eq_true.1 h j (List.mem_range.2 hj)
  exact of_decide_eq_true (List.all_eq_true.1 h1 i (List.mem_range.2 (by omega)))
theorem zero_mono : mono2 zeroS = true := by kernel_rfl
theorem two_mono : mono2 twoS = true := by kernel_rfl
theorem zero_any (b : Nat) (c : Int) (w : World) (h : w.heap[b]? = some (.cells (spanV zeroS).toArray 134 (0, 0))) :
    Calls Tryd.prog 78 #[.int .i64 c, .slice (some ⟨b, 0, none⟩) 7 7] w fun e w' => e = .returned (.bool (inSp c zeroS)) ∧ Fr Non w w' :=
  in_any b c zeroS _ w h (by show (7 : Nat) ≤ _; omega) (mono2_of zero_mono)
theorem two_any (b : Nat) (c : Int) (w : World) (h : w.heap[b]? = some (.cells (spanV twoS).toArray 135 (0, 0))) :
    Calls Tryd.prog 78 #[.int .i64 c, .slice (some ⟨b, 0, none⟩) 14 14] w fun e w' => e = .returned (.bool (inSp c twoS)) ∧ Fr Non w w' :=
  in_any b c twoS _ w h (by show (14 : Nat) ≤ _; omega) (mono2_of two_mono)
end Go.Proofs.YtppjgofjjcdcdaaDoor

/- runes.Width -/
namespace Go.Proofs.YtppjgofjjcdcdaaDoor
open Go.RowKit
theorem setRow_new {W : World} {c c' : Array Value} {t : TypeId} : (W.alloc (.cells c t)).setRow W.heap.size c' = W.alloc (.cells c' t) := World.setRow_alloc_new W c c' t
theorem wpList_store_new {P : Program} {ops : Array Oper} {rest : List Oper} {o : Oper} {a : Act} {W : World} {Q : Exit → Act → World → Prop} (hgd : o.guard = none) (ty : TypeId) (x y : Operand) (ho : o.op = .store ty x y)
    (n : Nat) (hn : n = W.heap.size) (cells : Array Value) (hx : a.eval x = .pointer (some ⟨n, 0, none⟩)) (hy : a.eval y = .agg cells) (old : Array Value) (hi : (P.info? ty).map (·.size) = some cells.size)
    (hold : old.size = cells.size) (h1 : cells.all (·.oneCell') = true) (h : wpList P ops Q rest (a.put o.dst undef) (W.alloc (.cells cells ty))) : wpList P ops Q (o :: rest) a (W.alloc (.cells old ty)) := by
  subst hn
  exact wpList_store_row hgd ty x y ho W.heap.size cells hx hy ty old (heap_alloc_new _ _) hi hold h1 (by rw [setRow_new]; exact h)
theorem wpList_build_to {P : Program} {ops : Array Oper} {rest : List Oper} {o : Oper} {a : Act} {w : World} {Q : Exit → Act → World → Prop} (hg : o.guard = none) (t : TypeId) (parts : Array (Nat × Operand)) (ho : o.op = .build t parts) (cs : Array Value)
    (hf : P.built t (parts.map fun (i, x) => (i, a.eval x)).toList = some cs) (h : wpList P ops Q rest (a.put o.dst (.agg cs)) w) : wpList P ops Q (o :: rest) a w :=
  wpList_build hg t parts ho (by rw [hf]; rfl) (by rw [hf]; exact h)
set_option maxHeartbeats 1000000 in
theorem width_any (c : Int) (w : World) : Calls Tryd.prog 75 #[.int .i64 c] w fun e w' => e = .returned (.int .i64 (widthP c)) ∧ Fr Non w w' := by
  obtain ⟨r, hr⟩ : ∃ r, widthP c = r := ⟨_, rfl⟩
  rw [hr]
  have HR := Lib.hid hr
  clear hr
  cases h1 : isC c with
  | false =>
    have H1 := Lib.hid h1
    have hA : ∀ W, Calls Tryd.prog 77 #[.int .i64 c] W fun e w' => e = .returned (.bool false) ∧ W = w' := fun W => by rw [← h1]; exact is_any c W
    have HA := Lib.hid hA
    clear h1 hA
    go_enter Tryd.func75, Tryd.ntmps75
    go_wp2_with (first | (with_reducible refine wpList_build_to rfl 134 _ rfl (spanV zeroS).toArray (by kernel_rfl) ?_) | (with_reducible refine wpList_store_new rfl 134 (.tmp 3) (.tmp 12) rfl w.heap.size rfl (spanV zeroS).toArray rfl rfl _ (by kernel_rfl) (by kernel_rfl) (by kernel_rfl) ?_) | (with_reducible refine wpList_build_to rfl 135 _ rfl (spanV twoS).toArray (by kernel_rfl) ?_) | (with_reducible refine wpList_store_new rfl 135 (.tmp 4) (.tmp 27) rfl (w.heap.size + 1) (World.size_alloc ..).symm (spanV twoS).toArray rfl rfl _ (by kernel_rfl) (by kernel_rfl) (by kernel_rfl) ?_) | (go_at_call 77; refine (HA.out _).mono ?_; rintro e w' ⟨rfl, rfl⟩) | fail)
    go_ret
    exact ⟨by rw [← HR.out]; simp [widthP, H1.out], ((Fr.refl _ _).alloc _).alloc _⟩
  | true =>
    have H1 := Lib.hid h1
    have hA : ∀ W, Calls Tryd.prog 77 #[.int .i64 c] W fun e w' => e = .returned (.bool true) ∧ W = w' := fun W => by rw [← h1]; exact is_any c W
    have HA := Lib.hid hA
    clear h1 hA
    go_enter Tryd.func75, Tryd.ntmps75
    go_wp2_with (first | (with_reducible refine wpList_build_to rfl 134 _ rfl (spanV zeroS).toArray (by kernel_rfl) ?_) | (with_reducible refine wpList_store_new rfl 134 (.tmp 3) (.tmp 12) rfl w.heap.size rfl (spanV zeroS).toArray rfl rfl _ (by kernel_rfl) (by kernel_rfl) (by kernel_rfl) ?_) | (with_reducible refine wpList_build_to rfl 135 _ rfl (spanV twoS).toArray (by kernel_rfl) ?_) | (with_reducible refine wpList_store_new rfl 135 (.tmp 4) (.tmp 27) rfl (w.heap.size + 1) (World.size_alloc ..).symm (spanV twoS).toArray rfl rfl _ (by kernel_rfl) (by kernel_rfl) (by kernel_rfl) ?_) | (go_at_call 77; refine (HA.out _).mono ?_; rintro e w' ⟨rfl, rfl⟩) | fail)
    have ez : ((w.alloc (.cells (spanV zeroS).toArray 134)).alloc (.cells (spanV twoS).toArray 135)).heap[w.heap.size]? = some (.cells (spanV zeroS).toArray 134 (0, 0)) := heap_alloc2_old _ _ _
    have et : ((w.alloc (.cells (spanV zeroS).toArray 134)).alloc (.cells (spanV twoS).toArray 135)).heap[w.heap.size + 1]? = some (.cells (spanV twoS).toArray 135 (0, 0)) := heap_alloc2_new _ _ _
    have ef : Fr Non w ((w.alloc (.cells (spanV zeroS).toArray 134)).alloc (.cells (spanV twoS).toArray 135)) := ((Fr.refl _ _).alloc _).alloc _
    refine (zero_any w.heap.size c _ ez).mono ?_
    rintro e W ⟨rfl, hW⟩
    have HT := Lib.hid (hW.at et id)
    have HW := Lib.hid (ef.trans hW)
    clear ez et ef hW
    cases hz : inSp c zeroS with
    | true =>
      have HZ := Lib.hid hz
      clear hz
      go_wp2
      go_ret
      exact ⟨by rw [← HR.out]; simp [widthP, HZ.out], HW.out⟩
    | false =>
      have HZ := Lib.hid hz
      clear hz
      go_wp2_with fail
      refine (two_any (w.heap.size + 1) c _ HT.out).mono ?_
      rintro e W2 ⟨rfl, hW2⟩
      have HW2 := Lib.hid (HW.out.trans hW2)
      clear hW2
      cases ht : inSp c twoS with
      | true =>
        have HT2 := Lib.hid ht
        clear ht
        go_wp2
        go_ret
        exact ⟨by rw [← HR.out]; simp [widthP, H1.out, HZ.out, HT2.out], HW2.out⟩
      | false =>
        have HT2 := Lib.hid ht
        clear ht
        go_wp2
        go_ret
        exact ⟨by rw [← HR.out]; simp [widthP, H1.out, HZ.out, HT2.out], HW2.out⟩
end Go.Proofs.YtppjgofjjcdcdaaDoor

/- The methods of layout's filler, each by what it does to its three blocks. -/
namespace Go.Proofs.YtppjgofjjcdcdaaDoor
open Go.RowKit
def filB (A : Value) (q np cp : Nat) (from_ to_ : Int) (cont : Bool) (n : Nat) : Obj :=
  .cells #[A, .slice (some ⟨q, 0, none⟩) np cp, .int .i64 from_, .int .i64 to_, .bool cont, .int .i64 n] 99 (0, 0)
def posB (P : List Int) : Obj := .cells (P.map (Value.int .i64)).toArray 3 (0, 0)
set_option maxHeartbeats 400000 in
theorem end_any (p q n cp : Nat) (A : Value) (P : List Int) (from_ to_ pos : Int) (cont : Bool) (w : World)
    (hp : w.heap[p]? = some (filB A q P.length cp from_ to_ cont n)) (hq : w.heap[q]? = some (posB P)) (hn : n < P.length) (hl : P.length ≤ 1000000) (hpq : p ≠ q) :
    Calls Tryd.prog 53 #[.pointer (some ⟨p, 0, none⟩), .int .i64 pos] w fun e w' => e = .returned (.tuple #[]) ∧
      w'.heap[p]? = some (filB A q P.length cp (if n = 0 then pos else from_) to_ cont n) ∧ w'.heap[q]? = some (posB (P.set n pos)) ∧ Fr (fun b => b = p ∨ b = q) w w' := by
  have c1 : w.cell? ⟨p, 1, none⟩ = some (.slice (some ⟨q, 0, none⟩) P.length cp) := cell_row hp rfl
  have c5 : w.cell? ⟨p, 5, none⟩ = some (.int .i64 n) := cell_row hp rfl
  have c2 : w.cell? ⟨p, 2, none⟩ = some (.int .i64 from_) := cell_row hp rfl
  have f2 : w.frozen? ⟨p, 2, none⟩ = false := free_row hp
  have d1 := cell_row hq (ints_at P n hn)
  have fd := free_row (j := n) hq
  have hqp : q ≠ p := Ne.symm hpq
  obtain ⟨m, hm⟩ : ∃ m, m = P.length := ⟨_, rfl⟩
  rw [← hm] at c1 hn hl
  have HP := Lib.hid hp
  have HQ := Lib.hid hq
  have HM := Lib.hid hm
  clear hp hq hm
  by_cases h0 : n = 0
  · subst h0
    go_enter Tryd.func53, Tryd.ntmps53
    go_wp2
    go_region
    go_wp2
    go_end0
    refine ⟨rfl, hd_drew ?_, hd_drew ?_, Fr.drew (((Fr.refl _ _).setCell _ _ (fun _ => Or.inr rfl)).setCell _ _ (fun _ => Or.inl rfl))⟩
    · exact (hs_same (hs_other HP.out hpq)).trans rfl
    · exact hs_other ((hs_same HQ.out).trans (by rw [ints_set]; rfl)) hqp
  · have h0' : ((n : Int) == 0) = false := by simp [h0]
    go_enter Tryd.func53, Tryd.ntmps53
    go_wp2
    go_region
    go_wp2
    go_end0
    refine ⟨rfl, hd_drew ?_, hd_drew ?_, Fr.drew ((Fr.refl _ _).setCell _ _ (fun _ => Or.inr rfl))⟩
    · exact hs_other HP.out hpq
    · exact (hs_same HQ.out).trans (by rw [ints_set]; rfl)
end Go.Proofs.YtppjgofjjcdcdaaDoor
