/- layout.rows: the last row. -/
import Derived.Test.YtppjgofjjcdcdaaDoorJC
import Derived.Shelf.RegionOpen
import Derived.RangeFuncCalls
set_option linter.unusedVariables false
set_option linter.unusedSimpArgs false
/- layout.rows: the consumer of rows, the pure step of a filler, the state of a round. -/
namespace Go.Proofs.YtppjgofjjcdcdaaDoor
open PLayoutRows
open Go.RowKit Go.Proofs.YtppjgofjjcdcdaaDoorW.PrintWords
/-- A step in which a row's blocks are handed over. -/
def StepG (d : RowD) (O O' : Nat → Prop) (W W' : World) : Prop := Fr O W W' ∧ ∀ b, O' b → O b ∨ (b = d.g ∨ b = d.q) ∨ W.heap.size ≤ b
/-- A consumer of rows, which keeps the rows' blocks. -/
structure ConsR (P : Program) where
  r : Rec
  l : Nat
  lo : Nat
  base : Nat
  stop : Code
  items : List Row
  J : List Row → (Nat → Prop) → World → Prop
  D : List Row → (Nat → Prop) → World → Prop
  ready : ∀ {xs O W}, J xs O W → W.heap[l]? = some (r.at .ready none) ∧ O l
  done : ∀ {xs O W}, D xs O W → W.heap[l]? = some (r.at .done (some stop)) ∧ O l
  own : ∀ {xs O W}, J xs O W → ∀ b, O b → base ≤ b
  ownD : ∀ {xs O W}, D xs O W → ∀ b, O b → base ≤ b
  stable : ∀ {xs O W W' T}, J xs O W → Fr T W W' → (∀ b, b < W.heap.size → T b → ¬ O b ∧ lo ≤ b) → J xs O W'
  stableD : ∀ {xs O W W' T}, D xs O W → Fr T W W' → (∀ b, b < W.heap.size → T b → ¬ O b ∧ lo ≤ b) → D xs O W'
  lt : ∀ {xs O W}, J xs O W → ∀ {b}, O b → b < W.heap.size
  psize : r.params.size = 1
  step : ∀ {xs : List Row} {d : RowD} {O W}, xs ++ [d.row] <+: items → J xs O W → W.heap[d.g]? = some (cellB d.row.f0) → W.heap[d.q]? = some (posB d.row.f1) → ¬ O d.g → ¬ O d.q → base ≤ d.g → base ≤ d.q →
    Yields P r l #[.agg (rowV d).toArray] W (fun W' => ∃ O', J (xs ++ [d.row]) O' W' ∧ StepG d O O' W W') (fun _ W' => ∃ O', D (xs ++ [d.row]) O' W' ∧ StepG d O O' W W')
/-- The call of yield, one way: more or not. -/
theorem ConsR.yield {P : Program} (c : ConsR P) {xs : List Row} {d : RowD} {O : Nat → Prop} {W : World} (hi : xs ++ [d.row] <+: c.items) (hJ : c.J xs O W) (hg : W.heap[d.g]? = some (cellB d.row.f0)) (hq : W.heap[d.q]? = some (posB d.row.f1))
    (ng : ¬ O d.g) (nq : ¬ O d.q) (bg : c.base ≤ d.g) (bq : c.base ≤ d.q) :
    ∃ tmps, (Instr.yield c.l #[.agg (rowV d).toArray]).run P W = .ok (.round c.l c.r.fn tmps c.r.assign c.r.body) W ∧
      RoundIn Fence.wide 0 P c.l c.r.fn tmps c.r.assign c.r.body W (fun e W' => ∃ more, e = .returned (.bool more) ∧ ∃ O', StepG d O O' W W' ∧ (more = true → c.J (xs ++ [d.row]) O' W') ∧ (more = false → c.D (xs ++ [d.row]) O' W')) := by
  refine ⟨_, run_yield_at (c.ready hJ).1 (by rw [c.psize]; rfl), ?_⟩
  refine RoundIn.mono (c.step hi hJ hg hq ng nq bg bq) ?_
  rintro e W' (⟨h, O', h1, h2⟩ | ⟨h, _, O', h1, h2⟩)
  · exact ⟨true, h, O', h2, fun _ => h1, fun h => by cases h⟩
  · exact ⟨false, h, O', h2, (fun h => by cases h), fun _ => h1⟩
def FeedsR {P : Program} (c : ConsR P) (O : Nat → Prop) (W W' : World) : Prop :=
  (∃ O', Fr O W W' ∧ (∀ b, O' b → O b ∨ W.heap.size ≤ b) ∧ (c.J c.items O' W' ∨ ∃ ys, ys <+: c.items ∧ c.D ys O' W'))
def rowOf (x : Fil) : Row := ⟨x.cells, x.pos, x.fr, x.to_, x.cont⟩
def Fil.fits (x : Fil) (n : Nat) : Bool := decide (x.n + n ≤ x.cells.length - 1)
def Fil.cut (x : Fil) : Fil := { x.mark 92 with cont := true }
/-- The state of the loop over the units: the filler, whether its line is over, the rows so far. -/
structure RS where
  x : Fil
  over : Bool
  rows : List Row
def stepR (width : Nat) (wrap : Bool) (s : RS) (u : Unt) : RS :=
  if u.feed then ⟨newFil width, false, s.rows ++ [rowOf (if s.over then s.x else s.x.end_ u.pos)]⟩
  else if s.over then s
  else if s.x.fits u.cells.length then ⟨s.x.put u.cells u.pos, false, s.rows⟩
  else if wrap then ⟨(newFil width).put u.cells u.pos, false, s.rows ++ [rowOf s.x.cut]⟩
  else ⟨s.x.mark 36, true, s.rows⟩
def rowsS (width : Nat) (wrap : Bool) (us : List Unt) : RS := us.foldl (stepR width wrap) ⟨newFil width, false, []⟩
def rowsE (width : Nat) (wrap : Bool) (to_ : Int) (us : List Unt) : List Row := (rowsS width wrap us).rows ++ [rowOf (if (rowsS width wrap us).over then (rowsS width wrap us).x else (rowsS width wrap us).x.end_ to_)]
theorem rowsS_snoc (width : Nat) (wrap : Bool) (us : List Unt) (u : Unt) : rowsS width wrap (us ++ [u]) = stepR width wrap (rowsS width wrap us) u := by simp [rowsS]
theorem stepR_pre (width : Nat) (wrap : Bool) (s : RS) (u : Unt) : s.rows <+: (stepR width wrap s u).rows := by
  unfold stepR
  split
  · exact List.prefix_append _ _
  · split
    · exact List.prefix_rfl
    · split
      · exact List.prefix_rfl
      · split
        · exact List.prefix_append _ _
        · exact List.prefix_rfl
theorem rowsS_pre (width : Nat) (wrap : Bool) {us vs : List Unt} (h : us <+: vs) : (rowsS width wrap us).rows <+: (rowsS width wrap vs).rows := by
  obtain ⟨zs, rfl⟩ := h
  have key : ∀ (zs : List Unt) (s : RS), s.rows <+: (zs.foldl (stepR width wrap) s).rows := by
    intro zs
    induction zs with
    | nil => intro s; exact List.prefix_rfl
    | cons z zs ih =>
      intro s
      exact List.IsPrefix.trans (stepR_pre width wrap s z) (ih _)
  unfold rowsS
  rw [List.foldl_append]
  exact key zs _
/-- A filler of a width, with its last cell free. -/
structure Fil.Ok (x : Fil) (width : Nat) : Prop where
  c : x.cells.length = width
  p : x.pos.length = width
  n : x.n + 1 ≤ width
theorem at0_same (x : Fil) (pos : Int) : (x.at0 pos).cells = x.cells ∧ (x.at0 pos).pos = x.pos ∧ (x.at0 pos).n = x.n := by
  unfold Fil.at0; split <;> exact ⟨rfl, rfl, rfl⟩
theorem puts_len (cs : List Cell) (pos : Int) : ∀ (x : Fil), (x.puts cs pos).cells.length = x.cells.length ∧ (x.puts cs pos).pos.length = x.pos.length ∧ (x.puts cs pos).n = x.n + cs.length := by
  induction cs with
  | nil => intro x; exact ⟨rfl, rfl, rfl⟩
  | cons c cs ih =>
    intro x
    obtain ⟨h1, h2, h3⟩ := ih (x.add1 c pos)
    refine ⟨h1.trans (by simp [Fil.add1]), h2.trans (by simp [Fil.add1]), ?_⟩
    show (Fil.puts (x.add1 c pos) cs pos).n = _
    rw [h3]
    simp [Fil.add1]; omega
theorem newFil_ok (width : Nat) (h : 1 ≤ width) : (newFil width).Ok width := ⟨by simp [newFil, blankP], by simp [newFil], by simp [newFil]; omega⟩
theorem put_ok {x : Fil} {width : Nat} (h : x.Ok width) {cs : List Cell} (hf : x.fits cs.length = true) (pos : Int) : (x.put cs pos).Ok width := by
  have hf' : x.n + cs.length ≤ x.cells.length - 1 := of_decide_eq_true hf
  have h0 := at0_same x pos
  obtain ⟨h1, h2, h3⟩ := puts_len cs pos (x.at0 pos)
  unfold Fil.put
  exact ⟨by rw [h1, h0.1, h.c], by rw [h2, h0.2.1, h.p], by rw [h3, h0.2.2]; have := h.c; have := h.n; omega⟩
theorem end_ok {x : Fil} {width : Nat} (h : x.Ok width) (pos : Int) : (x.end_ pos).Ok width := by
  have h0 := at0_same x pos
  exact ⟨by show (x.at0 pos).cells.length = _; rw [h0.1, h.c], by show (x.pos.set x.n pos).length = _; rw [List.length_set, h.p], by show (x.at0 pos).n + 1 ≤ _; rw [h0.2.2]; exact h.n⟩
theorem mark_ok {x : Fil} {width : Nat} (h : x.Ok width) (c : Int) : (x.mark c).Ok width := ⟨by simp [Fil.mark, h.c], h.p, h.n⟩
theorem cut_ok {x : Fil} {width : Nat} (h : x.Ok width) : x.cut.Ok width := by
  have := mark_ok h 92
  exact ⟨this.c, this.p, this.n⟩
theorem stepR_ok {width : Nat} (hw : 4 ≤ width) (wrap : Bool) {s : RS} {u : Unt} (h : s.x.Ok width) (hu : u.cells.length ≤ 2) : (stepR width wrap s u).x.Ok width := by
  unfold stepR
  split
  · exact newFil_ok width (by omega)
  · split
    · exact h
    · split
      · exact put_ok h (by assumption) _
      · split
        · refine put_ok (newFil_ok width (by omega)) ?_ _
          exact decide_eq_true (by simp [newFil, blankP]; omega)
        · exact mark_ok h 36
/-- The blocks of the round's own. -/
def T2 (l2 fB oB p g q : Nat) (b : Nat) : Prop := b = l2 ∨ b = fB ∨ b = oB ∨ b = p ∨ b = g ∨ b = q
def boxP (p : Nat) : Obj := .cells #[.pointer (some ⟨p, 0, none⟩)] 90 (0, 0)
def boxB (v : Bool) : Obj := .cells #[.bool v] 4 (0, 0)
structure St2 (c1 : ConsR Tryd.prog) (r : Rec) (l2 fB oB yB bw br : Nat) (width : Nat) (wrap : Bool) (st : LoopState) (pe : Option Code) (p g q : Nat) (x : Fil) (over : Bool) (O1 : Nat → Prop) (W : World) : Prop where
  lrec : W.heap[l2]? = some (r.at st pe)
  f : W.heap[fB]? = some (boxP p)
  o : W.heap[oB]? = some (boxB over)
  fil : FilAt W p g q x
  y : W.heap[yB]? = some (boxY c1.l 89)
  w : W.heap[bw]? = some (boxI width)
  b : W.heap[br]? = some (boxB wrap)
  own : ∀ b, T2 l2 fB oB p g q b → ¬ O1 b ∧ c1.lo ≤ b ∧ c1.base ≤ b ∧ b ≠ yB ∧ b ≠ bw ∧ b ≠ br
  ny : ¬ O1 yB
  nw : ¬ O1 bw
  nb : ¬ O1 br
  ok : x.Ok width
theorem flat_get : ∀ (cs : List Cell) (j : Nat) (p : Cell), cs[j]? = some p → ∀ i, i < 6 → (flat cs)[j * 6 + i]? = (cellV p)[i]?
  | [], j, p, h, i, _ => by simp at h
  | c :: cs, 0, p, h, i, hi => by
    simp only [List.getElem?_cons_zero, Option.some.injEq] at h
    subst h
    show (cellV c ++ flat cs)[0 * 6 + i]? = _
    rw [Nat.zero_mul, Nat.zero_add, List.getElem?_append_left (by rw [cellV_len]; exact hi)]
  | c :: cs, j + 1, p, h, i, hi => by
    have ih := flat_get cs j p (by simpa using h) i hi
    show (cellV c ++ flat cs)[(j + 1) * 6 + i]? = _
    rw [List.getElem?_append_right (by rw [cellV_len]; omega), cellV_len, show (j + 1) * 6 + i - 6 = j * 6 + i by omega]
    exact ih
theorem C_cellB {W : World} {A : Option Addr} {cs : List Cell} (hl : cs.length ≤ 2) (h : cs ≠ [] → ∃ b, A = some ⟨b, 0, none⟩ ∧ W.heap[b]? = some (cellB cs)) : Kd.C k78 W A cs.length cs := by
  refine ⟨rfl, by omega, fun h0 => ?_⟩
  obtain ⟨b, rfl, hb⟩ := h (by intro e; subst e; simp at h0)
  refine ⟨_, rfl, fun j p hj => ⟨cellV p, rfl, k78_mk W p, fun i u hu => ?_⟩⟩
  have hjl : j < cs.length := (List.getElem?_eq_some_iff.1 hj).1
  have hil : i < 6 := by
    have := (List.getElem?_eq_some_iff.1 hu).1
    simpa [cellV] using this
  show W.cell? ((⟨b, 0, none⟩ : Addr).add (j * 6 + i)) = some u
  rw [show (⟨b, 0, none⟩ : Addr).add (j * 6 + i) = ⟨b, j * 6 + i, none⟩ by unfold Addr.add; split <;> simp_all]
  refine cell_row hb ?_
  rw [List.getElem?_toArray, flat_get cs j p hj i hil]
  exact hu
end Go.Proofs.YtppjgofjjcdcdaaDoor

/- layout.rows: a row is handed over within a round. -/
namespace Go.Proofs.YtppjgofjjcdcdaaDoor
open PLayoutRows
open Go.RowKit
attribute [local go_sem] Oper.semAt_some
def condT : Code → Code
  | .cond _ x _ => x
  | c => c
def condE : Code → Code
  | .cond _ _ y => y
  | c => c
theorem StepG.undrew {d : RowD} {O O' : Nat → Prop} {w w' : World} (h : StepG d O O' w.drew w') : StepG d O O' w w' := ⟨⟨h.1.os, h.1.tape, h.1.output, h.1.size, h.1.block⟩, h.2⟩
set_option maxRecDepth 100000
set_option maxHeartbeats 2000000 in
theorem emit9 {u0 u1 u2 u3 u4 u5 u8 u9 u10 u11 u12 u13 u14 u15 u16 u17 u18 u19 u20 u21 u22 u23 u24 u25 u26 u27 u28 u29 u30 u31 u32 u33 u34 u35 u36 u37 u38 u39 u40 u41 u42 u43 u44 u45 u46 u47 u48 u49 u50 u51 u52 u53 u54 u55 u56 u57 u58 u59 u60 u61 u62 u63 u64 u65 u66 u67 u68 u69 u70 u71 u72 u73 : Value} (c1 : ConsR Tryd.prog) (r : Rec) (l2 fB oB yB bw br width : Nat) (wrap : Bool) (p g q : Nat) (x : Fil) (over : Bool) (E : List Row) (O1 : Nat → Prop) (w : World) (Q : Exit → Act → World → Prop)
    (hJ : c1.J E O1 w) (st : St2 c1 r l2 fB oB yB bw br width wrap .busy none p g q x over O1 w) (hi : E ++ [rowOf x] <+: c1.items)
    (hQ1 : ∀ (v27 v28 v29 v30 v31 v32 : Value) (more : Bool) (O1' : Nat → Prop) (w' : World), more = true → c1.J (E ++ [rowOf x]) O1' w' → StepG ⟨g, q, rowOf x⟩ O1 O1' w w' → Q .normal { tmps := #[u0, u1, u2, u3, u4, u5, .pointer (some ⟨yB, 0, none⟩), .pointer (some ⟨fB, 0, none⟩), u8, u9, u10, u11, u12, u13, u14, u15, u16, u17, u18, u19, u20, u21, u22, u23, u24, u25, u26, v27, v28, v29, v30, v31, v32, .bool (!more), u34, u35, u36, u37, u38, u39, u40, u41, u42, u43, u44, u45, u46, u47, u48, u49, u50, u51, u52, u53, u54, u55, u56, u57, u58, u59, u60, u61, u62, u63, u64, u65, u66, u67, u68, u69, u70, u71, u72, u73], defers := [] } w')
    (hQ2 : ∀ (a : Act) (O1' : Nat → Prop) (w' : World), c1.D (E ++ [rowOf x]) O1' w' → StepG ⟨g, q, rowOf x⟩ O1 O1' w w' → Q .ret a w') :
    (fstOf (sndOf (condT (sndOf (inOf (inOf (bodyOf Tryd.f50))))))).wpIn (Fence.wide.inRound l2) 0 Tryd.prog Q { tmps := #[u0, u1, u2, u3, u4, u5, .pointer (some ⟨yB, 0, none⟩), .pointer (some ⟨fB, 0, none⟩), u8, u9, u10, u11, u12, u13, u14, u15, u16, u17, u18, u19, u20, u21, u22, u23, u24, u25, u26, u27, u28, u29, u30, u31, u32, u33, u34, u35, u36, u37, u38, u39, u40, u41, u42, u43, u44, u45, u46, u47, u48, u49, u50, u51, u52, u53, u54, u55, u56, u57, u58, u59, u60, u61, u62, u63, u64, u65, u66, u67, u68, u69, u70, u71, u72, u73], defers := [] } w := by
  simp only [bodyOf, Tryd.f50, Option.bind_some, rangeOf, Option.or_some, Option.or_none, Option.map_some, Option.getD_some, Option.getD_none, inOf, fstOf, sndOf, condT, condE]
  have hmx : Tryd.prog.follows .mixedOrders = true := by kernel_rfl
  have y1 : w.cell? ⟨yB, 0, none⟩ = some (.func (.yield c1.l) #[] #[]) := cell_row st.y rfl
  have y2 : w.cell? ⟨fB, 0, none⟩ = some (.pointer (some ⟨p, 0, none⟩)) := cell_row st.f rfl
  have p0 : w.cell? ⟨p, 0, none⟩ = some (.slice (some ⟨g, 0, none⟩) x.cells.length x.cells.length) := cell_row st.fil.1 rfl
  have p1 : w.cell? ⟨p, 1, none⟩ = some (.slice (some ⟨q, 0, none⟩) x.pos.length x.pos.length) := cell_row st.fil.1 rfl
  have p2 : w.cell? ⟨p, 2, none⟩ = some (.int .i64 x.fr) := cell_row st.fil.1 rfl
  have p3 : w.cell? ⟨p, 3, none⟩ = some (.int .i64 x.to_) := cell_row st.fil.1 rfl
  have p4 : w.cell? ⟨p, 4, none⟩ = some (.bool x.cont) := cell_row st.fil.1 rfl
  have ng := st.own g (.inr (.inr (.inr (.inr (.inl rfl)))))
  have nq := st.own q (.inr (.inr (.inr (.inr (.inr rfl)))))
  have fd : Fr Non w w.drew := (Fr.refl _ _).drew
  obtain ⟨tm, hy, hR⟩ := c1.yield (d := ⟨g, q, rowOf x⟩) hi (c1.stable hJ fd (fun _ _ h => h.elim)) (hd_drew st.fil.2.1) (hd_drew st.fil.2.2) ng.1 nq.1 ng.2.2.1 nq.2.2.1
  simp only [rowV, rowOf] at hy
  have HR := Lib.hid (round_wide (n := 0) (l' := l2) hR)
  have HQ1 := Lib.hid hQ1
  have HQ2 := Lib.hid hQ2
  clear hJ st hi hR hQ1 hQ2 ng nq fd
  refine wpIn_seq (wpIn_mono (Q := fun e a w' => e = .normal ∧ ∃ (v27 v28 v29 v30 v31 v32 : Value) (more : Bool) (O1' : Nat → Prop), a = { tmps := #[u0, u1, u2, u3, u4, u5, .pointer (some ⟨yB, 0, none⟩), .pointer (some ⟨fB, 0, none⟩), u8, u9, u10, u11, u12, u13, u14, u15, u16, u17, u18, u19, u20, u21, u22, u23, u24, u25, u26, v27, v28, v29, v30, v31, v32, .bool (!more), u34, u35, u36, u37, u38, u39, u40, u41, u42, u43, u44, u45, u46, u47, u48, u49, u50, u51, u52, u53, u54, u55, u56, u57, u58, u59, u60, u61, u62, u63, u64, u65, u66, u67, u68, u69, u70, u71, u72, u73], defers := [] } ∧ StepG ⟨g, q, rowOf x⟩ O1 O1' w.drew w' ∧ (more = true → c1.J (E ++ [rowOf x]) O1' w') ∧ (more = false → c1.D (E ++ [rowOf x]) O1' w')) ?_ ?_)
  · gi_region_with_o (refine ⟨rfl, HR.out.mono ?_⟩; rintro e W3 ⟨more, rfl, hmore⟩)
    all_goals
      obtain ⟨O1', hS, hj, hd⟩ := hmore
      exact ⟨rfl, _, _, _, _, _, _, more, O1', rfl, hS, hj, hd⟩
  · rintro e a w' ⟨rfl, v27, v28, v29, v30, v31, v32, more, O1', rfl, hS, hj, hd⟩
    have hS' : StepG ⟨g, q, rowOf x⟩ O1 O1' w w' := StepG.undrew hS
    dsimp only
    cases more with
    | true =>
      have hj' := hj rfl
      clear hS hj hd
      gi_wp2
      exact HQ1.out _ _ _ _ _ _ true O1' w' rfl hj' hS'
    | false =>
      have hd' := hd rfl
      clear hS hj hd
      gi_wp2
      exact HQ2.out _ O1' w' hd' hS'
set_option maxHeartbeats 2000000 in
theorem emit15 {u0 u1 u2 u3 u4 u5 u8 u9 u10 u11 u12 u13 u14 u15 u16 u17 u18 u19 u20 u21 u22 u23 u24 u25 u26 u27 u28 u29 u30 u31 u32 u33 u34 u35 u36 u37 u38 u39 u40 u41 u42 u43 u44 u45 u46 u47 u48 u49 u50 u51 u52 u53 u54 u55 u56 u57 u58 u59 u60 u61 u62 u63 u64 u65 u66 u67 u68 u69 u70 u71 u72 u73 : Value} (c1 : ConsR Tryd.prog) (r : Rec) (l2 fB oB yB bw br width : Nat) (wrap : Bool) (p g q : Nat) (x : Fil) (over : Bool) (E : List Row) (O1 : Nat → Prop) (w : World) (Q : Exit → Act → World → Prop)
    (hJ : c1.J E O1 w) (st : St2 c1 r l2 fB oB yB bw br width wrap .busy none p g q x over O1 w) (hi : E ++ [rowOf x] <+: c1.items)
    (hQ1 : ∀ (v51 v52 v53 v54 v55 v56 : Value) (more : Bool) (O1' : Nat → Prop) (w' : World), more = true → c1.J (E ++ [rowOf x]) O1' w' → StepG ⟨g, q, rowOf x⟩ O1 O1' w w' → Q .normal { tmps := #[u0, u1, u2, u3, u4, u5, .pointer (some ⟨yB, 0, none⟩), .pointer (some ⟨fB, 0, none⟩), u8, u9, u10, u11, u12, u13, u14, u15, u16, u17, u18, u19, u20, u21, u22, u23, u24, u25, u26, u27, u28, u29, u30, u31, u32, u33, u34, u35, u36, u37, u38, u39, u40, u41, u42, u43, u44, u45, u46, u47, u48, u49, u50, v51, v52, v53, v54, v55, v56, .bool (!more), u58, u59, u60, u61, u62, u63, u64, u65, u66, u67, u68, u69, u70, u71, u72, u73], defers := [] } w')
    (hQ2 : ∀ (a : Act) (O1' : Nat → Prop) (w' : World), c1.D (E ++ [rowOf x]) O1' w' → StepG ⟨g, q, rowOf x⟩ O1 O1' w w' → Q .ret a w') :
    (fstOf (sndOf (sndOf (condT (sndOf (condE (sndOf (condE (sndOf (inOf (inOf (bodyOf Tryd.f50)))))))))))).wpIn (Fence.wide.inRound l2) 0 Tryd.prog Q { tmps := #[u0, u1, u2, u3, u4, u5, .pointer (some ⟨yB, 0, none⟩), .pointer (some ⟨fB, 0, none⟩), u8, u9, u10, u11, u12, u13, u14, u15, u16, u17, u18, u19, u20, u21, u22, u23, u24, u25, u26, u27, u28, u29, u30, u31, u32, u33, u34, u35, u36, u37, u38, u39, u40, u41, u42, u43, u44, u45, u46, u47, u48, u49, u50, u51, u52, u53, u54, u55, u56, u57, u58, u59, u60, u61, u62, u63, u64, u65, u66, u67, u68, u69, u70, u71, u72, u73], defers := [] } w := by
  simp only [bodyOf, Tryd.f50, Option.bind_some, rangeOf, Option.or_some, Option.or_none, Option.map_some, Option.getD_some, Option.getD_none, inOf, fstOf, sndOf, condT, condE]
  have hmx : Tryd.prog.follows .mixedOrders = true := by kernel_rfl
  have y1 : w.cell? ⟨yB, 0, none⟩ = some (.func (.yield c1.l) #[] #[]) := cell_row st.y rfl
  have y2 : w.cell? ⟨fB, 0, none⟩ = some (.pointer (some ⟨p, 0, none⟩)) := cell_row st.f rfl
  have p0 : w.cell? ⟨p, 0, none⟩ = some (.slice (some ⟨g, 0, none⟩) x.cells.length x.cells.length) := cell_row st.fil.1 rfl
  have p1 : w.cell? ⟨p, 1, none⟩ = some (.slice (some ⟨q, 0, none⟩) x.pos.length x.pos.length) := cell_row st.fil.1 rfl
  have p2 : w.cell? ⟨p, 2, none⟩ = some (.int .i64 x.fr) := cell_row st.fil.1 rfl
  have p3 : w.cell? ⟨p, 3, none⟩ = some (.int .i64 x.to_) := cell_row st.fil.1 rfl
  have p4 : w.cell? ⟨p, 4, none⟩ = some (.bool x.cont) := cell_row st.fil.1 rfl
  have ng := st.own g (.inr (.inr (.inr (.inr (.inl rfl)))))
  have nq := st.own q (.inr (.inr (.inr (.inr (.inr rfl)))))
  have fd : Fr Non w w.drew := (Fr.refl _ _).drew
  obtain ⟨tm, hy, hR⟩ := c1.yield (d := ⟨g, q, rowOf x⟩) hi (c1.stable hJ fd (fun _ _ h => h.elim)) (hd_drew st.fil.2.1) (hd_drew st.fil.2.2) ng.1 nq.1 ng.2.2.1 nq.2.2.1
  simp only [rowV, rowOf] at hy
  have HR := Lib.hid (round_wide (n := 0) (l' := l2) hR)
  have HQ1 := Lib.hid hQ1
  have HQ2 := Lib.hid hQ2
  clear hJ st hi hR hQ1 hQ2 ng nq fd
  refine wpIn_seq (wpIn_mono (Q := fun e a w' => e = .normal ∧ ∃ (v51 v52 v53 v54 v55 v56 : Value) (more : Bool) (O1' : Nat → Prop), a = { tmps := #[u0, u1, u2, u3, u4, u5, .pointer (some ⟨yB, 0, none⟩), .pointer (some ⟨fB, 0, none⟩), u8, u9, u10, u11, u12, u13, u14, u15, u16, u17, u18, u19, u20, u21, u22, u23, u24, u25, u26, u27, u28, u29, u30, u31, u32, u33, u34, u35, u36, u37, u38, u39, u40, u41, u42, u43, u44, u45, u46, u47, u48, u49, u50, v51, v52, v53, v54, v55, v56, .bool (!more), u58, u59, u60, u61, u62, u63, u64, u65, u66, u67, u68, u69, u70, u71, u72, u73], defers := [] } ∧ StepG ⟨g, q, rowOf x⟩ O1 O1' w.drew w' ∧ (more = true → c1.J (E ++ [rowOf x]) O1' w') ∧ (more = false → c1.D (E ++ [rowOf x]) O1' w')) ?_ ?_)
  · gi_region_with_o (refine ⟨rfl, HR.out.mono ?_⟩; rintro e W3 ⟨more, rfl, hmore⟩)
    all_goals
      obtain ⟨O1', hS, hj, hd⟩ := hmore
      exact ⟨rfl, _, _, _, _, _, _, more, O1', rfl, hS, hj, hd⟩
  · rintro e a w' ⟨rfl, v51, v52, v53, v54, v55, v56, more, O1', rfl, hS, hj, hd⟩
    have hS' : StepG ⟨g, q, rowOf x⟩ O1 O1' w w' := StepG.undrew hS
    dsimp only
    cases more with
    | true =>
      have hj' := hj rfl
      clear hS hj hd
      gi_wp2
      exact HQ1.out _ _ _ _ _ _ true O1' w' rfl hj' hS'
    | false =>
      have hd' := hd rfl
      clear hS hj hd
      gi_wp2
      exact HQ2.out _ O1' w' hd' hS'
end Go.Proofs.YtppjgofjjcdcdaaDoor

/- layout.rows: a line feed in the loop over the units. -/
namespace Go.Proofs.YtppjgofjjcdcdaaDoor
open PLayoutRows
open Go.RowKit
attribute [local go_sem] Oper.semAt_some
theorem in_round {P : Program} {f : FuncId} {args : Array Value} {w : World} {R : Ending → World → Prop} (l : Nat) (h : Calls P f args w R) : CallsIn (Fence.wide.inRound l) 0 P f args w R := CallsIn.inRound l (callsIn_wide.2 h)
/-- What is left of the round's state behind an emission. -/
structure Aft (c1 : ConsR Tryd.prog) (r : Rec) (l2 fB oB yB bw br width : Nat) (wrap : Bool) (p : Nat) (over : Bool) (O1 : Nat → Prop) (W : World) : Prop where
  lrec : W.heap[l2]? = some (r.at .busy none)
  f : W.heap[fB]? = some (boxP p)
  o : W.heap[oB]? = some (boxB over)
  y : W.heap[yB]? = some (boxY c1.l 89)
  w : W.heap[bw]? = some (boxI width)
  b : W.heap[br]? = some (boxB wrap)
  own : ∀ b, (b = l2 ∨ b = fB ∨ b = oB) → ¬ O1 b ∧ c1.lo ≤ b ∧ c1.base ≤ b ∧ b ≠ yB ∧ b ≠ bw ∧ b ≠ br
  ny : ¬ O1 yB
  nw : ¬ O1 bw
  nb : ¬ O1 br
  lo : c1.lo ≤ W.heap.size
  base : c1.base ≤ W.heap.size
theorem T2.l {l2 fB oB p g q : Nat} : T2 l2 fB oB p g q l2 := .inl rfl
theorem T2.f {l2 fB oB p g q : Nat} : T2 l2 fB oB p g q fB := .inr (.inl rfl)
theorem T2.o {l2 fB oB p g q : Nat} : T2 l2 fB oB p g q oB := .inr (.inr (.inl rfl))
theorem T2.p {l2 fB oB p g q : Nat} : T2 l2 fB oB p g q p := .inr (.inr (.inr (.inl rfl)))
theorem T2.g {l2 fB oB p g q : Nat} : T2 l2 fB oB p g q g := .inr (.inr (.inr (.inr (.inl rfl))))
theorem T2.q {l2 fB oB p g q : Nat} : T2 l2 fB oB p g q q := .inr (.inr (.inr (.inr (.inr rfl))))
section
variable {c1 : ConsR Tryd.prog} {r : Rec} {l2 fB oB yB bw br width : Nat} {wrap : Bool} {p g q : Nat} {x : Fil} {over : Bool} {O1 : Nat → Prop} {w : World}
/-- Of the round's own blocks no two are one. -/
structure Dis (l2 fB oB p g q : Nat) : Prop where
  lf : l2 ≠ fB
  lo : l2 ≠ oB
  lp : l2 ≠ p
  lg : l2 ≠ g
  lq : l2 ≠ q
  fo : fB ≠ oB
  fp : fB ≠ p
  fg : fB ≠ g
  fq : fB ≠ q
  op : oB ≠ p
  og : oB ≠ g
  oq : oB ≠ q
  pg : p ≠ g
  pq : p ≠ q
  gq : g ≠ q
theorem St2.dis {st_ : LoopState} {pe : Option Code} (st : St2 c1 r l2 fB oB yB bw br width wrap st_ pe p g q x over O1 w) : Dis l2 fB oB p g q :=
  ⟨ne_obj st.lrec st.f (by intro e; cases e), ne_obj st.lrec st.o (by intro e; cases e), ne_obj st.lrec st.fil.1 (by intro e; cases e), ne_obj st.lrec st.fil.2.1 (by intro e; cases e), ne_obj st.lrec st.fil.2.2 (by intro e; cases e),
    ne_type st.f st.o (by decide), ne_type st.f st.fil.1 (by decide), ne_type st.f st.fil.2.1 (by decide), ne_type st.f st.fil.2.2 (by decide), ne_type st.o st.fil.1 (by decide), ne_type st.o st.fil.2.1 (by decide), ne_type st.o st.fil.2.2 (by decide),
    ne_type st.fil.1 st.fil.2.1 (by decide), ne_type st.fil.1 st.fil.2.2 (by decide), ne_type st.fil.2.1 st.fil.2.2 (by decide)⟩
/-- Behind an emission. -/
theorem St2.emit (st : St2 c1 r l2 fB oB yB bw br width wrap .busy none p g q x over O1 w) (hlo : c1.lo ≤ w.heap.size) (hba : c1.base ≤ w.heap.size) {rw_ : Row} {O' : Nat → Prop} {w' : World} (h : StepG ⟨g, q, rw_⟩ O1 O' w w') :
    Aft c1 r l2 fB oB yB bw br width wrap p over O' w' := by
  have d := st.dis
  have key : ∀ b, b < w.heap.size → ¬ O1 b → b ≠ g → b ≠ q → ¬ O' b := by
    intro b hb h1 h2 h3 h4
    rcases h.2 b h4 with h5 | (h5 | h5) | h5
    · exact h1 h5
    · exact h2 h5
    · exact h3 h5
    · omega
  have og := st.own g T2.g
  have oq := st.own q T2.q
  have ol := st.own l2 T2.l
  have of := st.own fB T2.f
  have oo := st.own oB T2.o
  refine ⟨h.1.at st.lrec ol.1, h.1.at st.f of.1, h.1.at st.o oo.1, h.1.at st.y st.ny, h.1.at st.w st.nw, h.1.at st.b st.nb, ?_, ?_, ?_, ?_, Nat.le_trans hlo h.1.size, Nat.le_trans hba h.1.size⟩
  · rintro b (rfl | rfl | rfl)
    · exact ⟨key _ (lt_of_block st.lrec) ol.1 d.lg d.lq, ol.2⟩
    · exact ⟨key _ (lt_of_block st.f) of.1 d.fg d.fq, of.2⟩
    · exact ⟨key _ (lt_of_block st.o) oo.1 d.og d.oq, oo.2⟩
  · exact key _ (lt_of_block st.y) st.ny (Ne.symm og.2.2.2.1) (Ne.symm oq.2.2.2.1)
  · exact key _ (lt_of_block st.w) st.nw (Ne.symm og.2.2.2.2.1) (Ne.symm oq.2.2.2.2.1)
  · exact key _ (lt_of_block st.b) st.nb (Ne.symm og.2.2.2.2.2) (Ne.symm oq.2.2.2.2.2)
/-- Changes of the filler's own blocks alone. -/
theorem St2.fill {st_ : LoopState} {pe : Option Code} (st : St2 c1 r l2 fB oB yB bw br width wrap st_ pe p g q x over O1 w) {x' : Fil} {w' : World} (f : Fr (fun b => b = p ∨ b = g ∨ b = q) w w') (hf : FilAt w' p g q x') (hok : x'.Ok width) :
    St2 c1 r l2 fB oB yB bw br width wrap st_ pe p g q x' over O1 w' := by
  have d := st.dis
  have n : ∀ b, b ≠ p → b ≠ g → b ≠ q → ¬ (b = p ∨ b = g ∨ b = q) := fun b h1 h2 h3 h => h.elim h1 (fun h => h.elim h2 h3)
  have op := (st.own p T2.p).2.2.2
  have og := (st.own g T2.g).2.2.2
  have oq := (st.own q T2.q).2.2.2
  exact ⟨f.at st.lrec (n _ d.lp d.lg d.lq), f.at st.f (n _ d.fp d.fg d.fq), f.at st.o (n _ d.op d.og d.oq), hf, f.at st.y (n _ (Ne.symm op.1) (Ne.symm og.1) (Ne.symm oq.1)),
    f.at st.w (n _ (Ne.symm op.2.1) (Ne.symm og.2.1) (Ne.symm oq.2.1)), f.at st.b (n _ (Ne.symm op.2.2) (Ne.symm og.2.2) (Ne.symm oq.2.2)), st.own, st.ny, st.nw, st.nb, hok⟩
end
set_option maxRecDepth 100000
set_option maxHeartbeats 2000000 in
theorem feedA {u0 u2 u3 u5 u10 u11 u12 u13 u14 u15 u16 u17 u18 u19 u20 u21 u22 u23 u24 u25 u26 u27 u28 u29 u30 u31 u32 u33 u34 u35 u36 u37 u38 u39 u40 u41 u42 u43 u44 u45 u46 u47 u48 u49 u50 u51 u52 u53 u54 u55 u56 u57 u58 u59 u60 u61 u62 u63 u64 u65 u66 u67 u68 u69 u70 u71 u72 u73 : Value} (c1 : ConsR Tryd.prog) (r : Rec) (l2 fB oB yB bw br width : Nat) (wrap : Bool) (p g q bx : Nat) (x : Fil) (over : Bool) (O1 : Nat → Prop) (w : World) (A : Option Addr) (n c : Nat) (pos : Int) (fd : Bool) (Q : Exit → Act → World → Prop)
    (st : St2 c1 r l2 fB oB yB bw br width wrap .busy none p g q x over O1 w) (hbx : w.heap[bx]? = some (.cells #[.slice A n c, .int .i64 pos, .bool fd] 96 (0, 0))) (hw : width ≤ 1000000)
    (hQ : ∀ (v21 v22 v23 v24 v25 v26 : Value) (w' : World), St2 c1 r l2 fB oB yB bw br width wrap .busy none p g q (if over then x else x.end_ pos) over O1 w' → Fr (fun b => b = p ∨ b = g ∨ b = q) w w' → Q .normal { tmps := #[u0, .pointer (some ⟨bw, 0, none⟩), u2, u3, .pointer (some ⟨br, 0, none⟩), u5, .pointer (some ⟨yB, 0, none⟩), .pointer (some ⟨fB, 0, none⟩), .pointer (some ⟨oB, 0, none⟩), .pointer (some ⟨bx, 0, none⟩), u10, u11, u12, u13, u14, u15, u16, u17, u18, u19, u20, v21, v22, v23, v24, v25, v26, u27, u28, u29, u30, u31, u32, u33, u34, u35, u36, u37, u38, u39, u40, u41, u42, u43, u44, u45, u46, u47, u48, u49, u50, u51, u52, u53, u54, u55, u56, u57, u58, u59, u60, u61, u62, u63, u64, u65, u66, u67, u68, u69, u70, u71, u72, u73], defers := [] } w') :
    (fstOf (condT (sndOf (inOf (inOf (bodyOf Tryd.f50)))))).wpIn (Fence.wide.inRound l2) 0 Tryd.prog Q { tmps := #[u0, .pointer (some ⟨bw, 0, none⟩), u2, u3, .pointer (some ⟨br, 0, none⟩), u5, .pointer (some ⟨yB, 0, none⟩), .pointer (some ⟨fB, 0, none⟩), .pointer (some ⟨oB, 0, none⟩), .pointer (some ⟨bx, 0, none⟩), u10, u11, u12, u13, u14, u15, u16, u17, u18, u19, u20, u21, u22, u23, u24, u25, u26, u27, u28, u29, u30, u31, u32, u33, u34, u35, u36, u37, u38, u39, u40, u41, u42, u43, u44, u45, u46, u47, u48, u49, u50, u51, u52, u53, u54, u55, u56, u57, u58, u59, u60, u61, u62, u63, u64, u65, u66, u67, u68, u69, u70, u71, u72, u73], defers := [] } w := by
  simp only [bodyOf, Tryd.f50, Option.bind_some, rangeOf, Option.or_some, Option.or_none, Option.map_some, Option.getD_some, Option.getD_none, inOf, fstOf, sndOf, condT, condE]
  have d := st.dis
  have y1 : w.cell? ⟨oB, 0, none⟩ = some (.bool over) := cell_row st.o rfl
  have y2 : w.cell? ⟨fB, 0, none⟩ = some (.pointer (some ⟨p, 0, none⟩)) := cell_row st.f rfl
  have y3 : w.cell? ⟨bx, 1, none⟩ = some (.int .i64 pos) := cell_row hbx rfl
  have hE := filEnd_any p g q x pos w st.fil (by rw [st.ok.p]; exact st.ok.n) (by rw [st.ok.p]; exact hw) d.pq (Ne.symm d.pg) d.gq
  have HE := Lib.hid (in_round l2 hE)
  have HST := Lib.hid st
  have HQ := Lib.hid hQ
  clear st hQ hE hbx d
  cases over with
  | true =>
    gi_wp2
    exact HQ.out _ _ _ _ _ _ w HST.out (Fr.refl _ _)
  | false =>
    gi_wp2_with fail
    refine ⟨trivial, rfl, HE.out.mono ?_⟩
    rintro e w1 ⟨rfl, hf, hfr⟩
    have F := hfr.mono (S' := fun b => b = p ∨ b = g ∨ b = q) (fun b _ h => h.elim (fun h => .inl h) (fun h => .inr (.inr h)))
    have hst := HST.out.fill F hf (end_ok HST.out.ok pos)
    have HF := Lib.hid F
    have HS := Lib.hid hst
    clear hf hfr F hst
    gi_wp2
    exact HQ.out _ _ _ _ _ _ w1 HS.out HF.out
end Go.Proofs.YtppjgofjjcdcdaaDoor

/- layout.rows: a new filler. -/
namespace Go.Proofs.YtppjgofjjcdcdaaDoor
open PLayoutRows
open Go.RowKit
attribute [local go_sem] Oper.semAt_some
set_option maxRecDepth 100000
set_option maxHeartbeats 2000000 in
theorem refill10 {u0 u2 u3 u5 u10 u11 u12 u13 u14 u15 u16 u17 u18 u19 u20 u21 u22 u23 u24 u25 u26 u27 u28 u29 u30 u31 u32 u33 u34 u35 u36 u37 u38 u39 u40 u41 u42 u43 u44 u45 u46 u47 u48 u49 u50 u51 u52 u53 u54 u55 u56 u57 u58 u59 u60 u61 u62 u63 u64 u65 u66 u67 u68 u69 u70 u71 u72 u73 : Value} (c1 : ConsR Tryd.prog) (r : Rec) (l2 fB oB yB bw br width : Nat) (wrap : Bool) (p bx : Nat) (over : Bool) (O1 : Nat → Prop) (w : World) (Q : Exit → Act → World → Prop)
    (st : Aft c1 r l2 fB oB yB bw br width wrap p over O1 w) (hw0 : 4 ≤ width) (hw : width ≤ 1000000) (hOlt : ∀ b, O1 b → b < w.heap.size)
    (hQ : ∀ (v34 v35 : Value) (p' g' q' : Nat) (w' : World), St2 c1 r l2 fB oB yB bw br width wrap .busy none p' g' q' (newFil width) false O1 w' → Fr (fun b => b = fB ∨ b = oB) w w' → w.heap.size ≤ p' → w.heap.size ≤ g' → w.heap.size ≤ q' → Q .normal { tmps := #[u0, .pointer (some ⟨bw, 0, none⟩), u2, u3, .pointer (some ⟨br, 0, none⟩), u5, .pointer (some ⟨yB, 0, none⟩), .pointer (some ⟨fB, 0, none⟩), .pointer (some ⟨oB, 0, none⟩), .pointer (some ⟨bx, 0, none⟩), u10, u11, u12, u13, u14, u15, u16, u17, u18, u19, u20, u21, u22, u23, u24, u25, u26, u27, u28, u29, u30, u31, u32, u33, v34, v35, u36, u37, u38, u39, u40, u41, u42, u43, u44, u45, u46, u47, u48, u49, u50, u51, u52, u53, u54, u55, u56, u57, u58, u59, u60, u61, u62, u63, u64, u65, u66, u67, u68, u69, u70, u71, u72, u73], defers := [] } w') :
    (sndOf (sndOf (condT (sndOf (inOf (inOf (bodyOf Tryd.f50))))))).wpIn (Fence.wide.inRound l2) 0 Tryd.prog Q { tmps := #[u0, .pointer (some ⟨bw, 0, none⟩), u2, u3, .pointer (some ⟨br, 0, none⟩), u5, .pointer (some ⟨yB, 0, none⟩), .pointer (some ⟨fB, 0, none⟩), .pointer (some ⟨oB, 0, none⟩), .pointer (some ⟨bx, 0, none⟩), u10, u11, u12, u13, u14, u15, u16, u17, u18, u19, u20, u21, u22, u23, u24, u25, u26, u27, u28, u29, u30, u31, u32, u33, u34, u35, u36, u37, u38, u39, u40, u41, u42, u43, u44, u45, u46, u47, u48, u49, u50, u51, u52, u53, u54, u55, u56, u57, u58, u59, u60, u61, u62, u63, u64, u65, u66, u67, u68, u69, u70, u71, u72, u73], defers := [] } w := by
  simp only [bodyOf, Tryd.f50, Option.bind_some, rangeOf, Option.or_some, Option.or_none, Option.map_some, Option.getD_some, Option.getD_none, inOf, fstOf, sndOf, condT, condE]
  have y1 : w.cell? ⟨bw, 0, none⟩ = some (.int .i64 width) := cell_row st.w rfl
  have hE := fill_any width w (by omega) hw
  have HE := Lib.hid (in_round l2 hE)
  have HST := Lib.hid st
  have HQ := Lib.hid hQ
  have HO := Lib.hid hOlt
  clear st hQ hE hOlt
  gi_wp2_with fail
  refine ⟨trivial, rfl, HE.out.mono ?_⟩
  rintro e w1 ⟨p', g', q', rfl, hf, hp, hg, hq, d1, d2, d3, hfr⟩
  have st := HST.out
  have hf1 := hfr.at st.f id
  have ho1 := hfr.at st.o id
  have z1 : w1.cell? ⟨fB, 0, none⟩ = some (.pointer (some ⟨p, 0, none⟩)) := cell_row hf1 rfl
  have z2 : w1.frozen? ⟨fB, 0, none⟩ = false := free_row hf1
  have z3 : w1.cell? ⟨oB, 0, none⟩ = some (.bool over) := cell_row ho1 rfl
  have z4 : w1.frozen? ⟨oB, 0, none⟩ = false := free_row ho1
  have fo : fB ≠ oB := ne_type st.f st.o (by decide)
  have lf : l2 ≠ fB := ne_obj st.lrec st.f (by intro e; cases e)
  have lo : l2 ≠ oB := ne_obj st.lrec st.o (by intro e; cases e)
  have sf := lt_of_block st.f
  have so := lt_of_block st.o
  have sl := lt_of_block st.lrec
  have sy := lt_of_block st.y
  have sw := lt_of_block st.w
  have sb := lt_of_block st.b
  have HF := Lib.hid hf
  have HFR := Lib.hid hfr
  have HF1 := Lib.hid hf1
  have HO1 := Lib.hid ho1
  clear st hf hfr hf1 ho1
  gi_wp2
  have st := HST.out
  have f : Fr (fun b => b = fB ∨ b = oB) w1 ((w1.setCell ⟨fB, 0, none⟩ (.pointer (some ⟨p', 0, none⟩))).setCell ⟨oB, 0, none⟩ (.bool false)) := ((Fr.refl _ _).setCell _ _ (fun _ => .inl rfl)).setCell _ _ (fun _ => .inr rfl)
  have n : ∀ b, b ≠ fB → b ≠ oB → ¬ (b = fB ∨ b = oB) := fun b h1 h2 h => h.elim h1 h2
  have ff := hs_other (v := .bool false) (j := 0) (hs_same (v := .pointer (some ⟨p', 0, none⟩)) (i := 0) HF1.out) fo
  have fo' := hs_same (v := .bool false) (i := 0) (hs_other (v := .pointer (some ⟨p', 0, none⟩)) (j := 0) HO1.out (Ne.symm fo))
  have hh := HF.out
  have a1 := (st.own l2 (.inl rfl)).2.2.2
  have a2 := (st.own fB (.inr (.inl rfl))).2.2.2
  have a3 := (st.own oB (.inr (.inr rfl))).2.2.2
  have hO := HO.out
  have hlo := st.lo
  have hba := st.base
  have up : ∀ b, w.heap.size ≤ b → ¬ O1 b ∧ c1.lo ≤ b ∧ c1.base ≤ b ∧ b ≠ yB ∧ b ≠ bw ∧ b ≠ br := fun b hb => ⟨fun h => by have := hO b h; omega, by omega, by omega, by omega, by omega, by omega⟩
  refine HQ.out _ _ p' g' q' _ ⟨f.at (HFR.out.at st.lrec id) (n _ lf lo), ff, fo', ⟨f.at hh.1 (n _ (by omega) (by omega)), f.at hh.2.1 (n _ (by omega) (by omega)), f.at hh.2.2 (n _ (by omega) (by omega))⟩,
    f.at (HFR.out.at st.y id) (n _ (Ne.symm a2.1) (Ne.symm a3.1)), f.at (HFR.out.at st.w id) (n _ (Ne.symm a2.2.1) (Ne.symm a3.2.1)), f.at (HFR.out.at st.b id) (n _ (Ne.symm a2.2.2) (Ne.symm a3.2.2)), ?_, st.ny, st.nw, st.nb, newFil_ok width (by omega)⟩
    ((HFR.out.mono (fun _ _ h => h.elim)).trans f) hp hg hq
  rintro b (rfl | rfl | rfl | rfl | rfl | rfl)
  · exact st.own _ (.inl rfl)
  · exact st.own _ (.inr (.inl rfl))
  · exact st.own _ (.inr (.inr rfl))
  · exact up _ hp
  · exact up _ hg
  · exact up _ hq
set_option maxHeartbeats 2000000 in
theorem refill16 {u0 u2 u3 u5 u10 u11 u12 u13 u14 u15 u16 u17 u18 u19 u20 u21 u22 u23 u24 u25 u26 u27 u28 u29 u30 u31 u32 u33 u34 u35 u36 u37 u38 u39 u40 u41 u42 u43 u44 u45 u46 u47 u48 u49 u50 u51 u52 u53 u54 u55 u56 u57 u58 u59 u60 u61 u62 u63 u64 u65 u66 u67 u68 u69 u70 u71 u72 u73 : Value} (c1 : ConsR Tryd.prog) (r : Rec) (l2 fB oB yB bw br width : Nat) (wrap : Bool) (p bx : Nat) (over : Bool) (O1 : Nat → Prop) (w : World) (Q : Exit → Act → World → Prop)
    (st : Aft c1 r l2 fB oB yB bw br width wrap p over O1 w) (hw0 : 4 ≤ width) (hw : width ≤ 1000000) (hOlt : ∀ b, O1 b → b < w.heap.size) (hov : over = false)
    (hQ : ∀ (v58 v59 : Value) (p' g' q' : Nat) (w' : World), St2 c1 r l2 fB oB yB bw br width wrap .busy none p' g' q' (newFil width) false O1 w' → Fr (fun b => b = fB) w w' → w.heap.size ≤ p' → w.heap.size ≤ g' → w.heap.size ≤ q' → Q .normal { tmps := #[u0, .pointer (some ⟨bw, 0, none⟩), u2, u3, .pointer (some ⟨br, 0, none⟩), u5, .pointer (some ⟨yB, 0, none⟩), .pointer (some ⟨fB, 0, none⟩), .pointer (some ⟨oB, 0, none⟩), .pointer (some ⟨bx, 0, none⟩), u10, u11, u12, u13, u14, u15, u16, u17, u18, u19, u20, u21, u22, u23, u24, u25, u26, u27, u28, u29, u30, u31, u32, u33, u34, u35, u36, u37, u38, u39, u40, u41, u42, u43, u44, u45, u46, u47, u48, u49, u50, u51, u52, u53, u54, u55, u56, u57, v58, v59, u60, u61, u62, u63, u64, u65, u66, u67, u68, u69, u70, u71, u72, u73], defers := [] } w') :
    (fstOf (sndOf (sndOf (sndOf (condT (sndOf (condE (sndOf (condE (sndOf (inOf (inOf (bodyOf Tryd.f50))))))))))))).wpIn (Fence.wide.inRound l2) 0 Tryd.prog Q { tmps := #[u0, .pointer (some ⟨bw, 0, none⟩), u2, u3, .pointer (some ⟨br, 0, none⟩), u5, .pointer (some ⟨yB, 0, none⟩), .pointer (some ⟨fB, 0, none⟩), .pointer (some ⟨oB, 0, none⟩), .pointer (some ⟨bx, 0, none⟩), u10, u11, u12, u13, u14, u15, u16, u17, u18, u19, u20, u21, u22, u23, u24, u25, u26, u27, u28, u29, u30, u31, u32, u33, u34, u35, u36, u37, u38, u39, u40, u41, u42, u43, u44, u45, u46, u47, u48, u49, u50, u51, u52, u53, u54, u55, u56, u57, u58, u59, u60, u61, u62, u63, u64, u65, u66, u67, u68, u69, u70, u71, u72, u73], defers := [] } w := by
  simp only [bodyOf, Tryd.f50, Option.bind_some, rangeOf, Option.or_some, Option.or_none, Option.map_some, Option.getD_some, Option.getD_none, inOf, fstOf, sndOf, condT, condE]
  have y1 : w.cell? ⟨bw, 0, none⟩ = some (.int .i64 width) := cell_row st.w rfl
  have hE := fill_any width w (by omega) hw
  have HE := Lib.hid (in_round l2 hE)
  have HST := Lib.hid st
  have HQ := Lib.hid hQ
  have HO := Lib.hid hOlt
  clear st hQ hE hOlt
  gi_wp2_with fail
  refine ⟨trivial, rfl, HE.out.mono ?_⟩
  rintro e w1 ⟨p', g', q', rfl, hf, hp, hg, hq, d1, d2, d3, hfr⟩
  have st := HST.out
  have hf1 := hfr.at st.f id
  have ho1 := hfr.at st.o id
  have z1 : w1.cell? ⟨fB, 0, none⟩ = some (.pointer (some ⟨p, 0, none⟩)) := cell_row hf1 rfl
  have z2 : w1.frozen? ⟨fB, 0, none⟩ = false := free_row hf1
  have z3 : w1.cell? ⟨oB, 0, none⟩ = some (.bool over) := cell_row ho1 rfl
  have z4 : w1.frozen? ⟨oB, 0, none⟩ = false := free_row ho1
  have fo : fB ≠ oB := ne_type st.f st.o (by decide)
  have lf : l2 ≠ fB := ne_obj st.lrec st.f (by intro e; cases e)
  have lo : l2 ≠ oB := ne_obj st.lrec st.o (by intro e; cases e)
  have sf := lt_of_block st.f
  have so := lt_of_block st.o
  have sl := lt_of_block st.lrec
  have sy := lt_of_block st.y
  have sw := lt_of_block st.w
  have sb := lt_of_block st.b
  have HF := Lib.hid hf
  have HFR := Lib.hid hfr
  have HF1 := Lib.hid hf1
  have HO1 := Lib.hid ho1
  clear st hf hfr hf1 ho1
  gi_wp2
  have st := HST.out
  have f : Fr (fun b => b = fB) w1 (w1.setCell ⟨fB, 0, none⟩ (.pointer (some ⟨p', 0, none⟩))) := (Fr.refl _ _).setCell _ _ (fun _ => rfl)
  have n : ∀ b, b ≠ fB → b ≠ oB → ¬ (b = fB) := fun b h1 _ h => h1 h
  have ff := hs_same (v := .pointer (some ⟨p', 0, none⟩)) (i := 0) HF1.out
  have fo' := hs_other (v := .pointer (some ⟨p', 0, none⟩)) (j := 0) HO1.out (Ne.symm fo)
  have hh := HF.out
  have a1 := (st.own l2 (.inl rfl)).2.2.2
  have a2 := (st.own fB (.inr (.inl rfl))).2.2.2
  have a3 := (st.own oB (.inr (.inr rfl))).2.2.2
  have hO := HO.out
  have hlo := st.lo
  have hba := st.base
  have up : ∀ b, w.heap.size ≤ b → ¬ O1 b ∧ c1.lo ≤ b ∧ c1.base ≤ b ∧ b ≠ yB ∧ b ≠ bw ∧ b ≠ br := fun b hb => ⟨fun h => by have := hO b h; omega, by omega, by omega, by omega, by omega, by omega⟩
  refine HQ.out _ _ p' g' q' _ ⟨f.at (HFR.out.at st.lrec id) (n _ lf lo), ff, by rw [← hov]; exact fo', ⟨f.at hh.1 (n _ (by omega) (by omega)), f.at hh.2.1 (n _ (by omega) (by omega)), f.at hh.2.2 (n _ (by omega) (by omega))⟩,
    f.at (HFR.out.at st.y id) (n _ (Ne.symm a2.1) (Ne.symm a3.1)), f.at (HFR.out.at st.w id) (n _ (Ne.symm a2.2.1) (Ne.symm a3.2.1)), f.at (HFR.out.at st.b id) (n _ (Ne.symm a2.2.2) (Ne.symm a3.2.2)), ?_, st.ny, st.nw, st.nb, newFil_ok width (by omega)⟩
    ((HFR.out.mono (fun _ _ h => h.elim)).trans f) hp hg hq
  rintro b (rfl | rfl | rfl | rfl | rfl | rfl)
  · exact st.own _ (.inl rfl)
  · exact st.own _ (.inr (.inl rfl))
  · exact st.own _ (.inr (.inr rfl))
  · exact up _ hp
  · exact up _ hg
  · exact up _ hq
end Go.Proofs.YtppjgofjjcdcdaaDoor

/- layout.rows: a line feed. -/
namespace Go.Proofs.YtppjgofjjcdcdaaDoor
open PLayoutRows
open Go.RowKit
def OT (l2 fB oB p g q : Nat) (O1 : Nat → Prop) (b : Nat) : Prop := O1 b ∨ T2 l2 fB oB p g q b
def OL (l2 : Nat) (O1 : Nat → Prop) (b : Nat) : Prop := O1 b ∨ b = l2
theorem FEED_eq : condT (sndOf (inOf (inOf (bodyOf Tryd.f50)))) = .seq (fstOf (condT (sndOf (inOf (inOf (bodyOf Tryd.f50)))))) (.seq (fstOf (sndOf (condT (sndOf (inOf (inOf (bodyOf Tryd.f50))))))) (sndOf (sndOf (condT (sndOf (inOf (inOf (bodyOf Tryd.f50)))))))) := rfl
section
variable {l2 fB oB p g q p' g' q' : Nat} {O1 O1' : Nat → Prop} {w w1 w2 w3 : World}
/-- A step of the filler's own, an emission, a new filler. -/
theorem step_emit (f1 : Fr (fun b => b = p ∨ b = g ∨ b = q) w w1) {d : Row} (h : StepG ⟨g, q, d⟩ O1 O1' w1 w2) {S : Nat → Prop} (f3 : Fr S w2 w3) (hS : ∀ b, S b → b = fB ∨ b = oB ∨ w2.heap.size ≤ b) (hp : w2.heap.size ≤ p') (hg : w2.heap.size ≤ g') (hq : w2.heap.size ≤ q') :
    Step (OT l2 fB oB p g q O1) (OT l2 fB oB p' g' q' O1') w w3 := by
  have s1 := f1.size
  have s2 := h.1.size
  refine ⟨((f1.mono (fun b _ hb => ?_)).then h.1 (fun b _ hb => .inl hb)).then f3 (fun b hb h' => ?_), ?_⟩
  · rcases hb with rfl | rfl | rfl
    · exact .inr T2.p
    · exact .inr T2.g
    · exact .inr T2.q
  · rcases hS b h' with rfl | rfl | h'
    · exact .inr T2.f
    · exact .inr T2.o
    · omega
  · rintro b (hb | rfl | rfl | rfl | rfl | rfl | rfl)
    · rcases h.2 b hb with h4 | (rfl | rfl) | h4
      · exact .inl (.inl h4)
      · exact .inl (.inr T2.g)
      · exact .inl (.inr T2.q)
      · exact .inr (by omega)
    · exact .inl (.inr T2.l)
    · exact .inl (.inr T2.f)
    · exact .inl (.inr T2.o)
    · exact .inr (by omega)
    · exact .inr (by omega)
    · exact .inr (by omega)
theorem step_stop (f1 : Fr (fun b => b = p ∨ b = g ∨ b = q) w w1) {d : Row} (h : StepG ⟨g, q, d⟩ O1 O1' w1 w2) : Step (OT l2 fB oB p g q O1) (OL l2 O1') w w2 := by
  have s1 := f1.size
  refine ⟨(f1.mono (fun b _ hb => ?_)).then h.1 (fun b _ hb => .inl hb), ?_⟩
  · rcases hb with rfl | rfl | rfl
    · exact .inr T2.p
    · exact .inr T2.g
    · exact .inr T2.q
  · rintro b (hb | rfl)
    · rcases h.2 b hb with h4 | (rfl | rfl) | h4
      · exact .inl (.inl h4)
      · exact .inl (.inr T2.g)
      · exact .inl (.inr T2.q)
      · exact .inr (by omega)
    · exact .inl (.inr T2.l)
end
theorem feed2 {u0 u2 u3 u5 u10 u11 u12 u13 u14 u15 u16 u17 u18 u19 u20 u21 u22 u23 u24 u25 u26 u27 u28 u29 u30 u31 u32 u33 u34 u35 u36 u37 u38 u39 u40 u41 u42 u43 u44 u45 u46 u47 u48 u49 u50 u51 u52 u53 u54 u55 u56 u57 u58 u59 u60 u61 u62 u63 u64 u65 u66 u67 u68 u69 u70 u71 u72 u73 : Value} (c1 : ConsR Tryd.prog) (r : Rec) (l2 fB oB yB bw br width : Nat) (wrap : Bool) (p g q bx : Nat) (s : RS) (O1 : Nat → Prop) (w : World) (A : Option Addr) (n c : Nat) (pos : Int) (fd : Bool) (Q : Exit → Act → World → Prop)
    (st : St2 c1 r l2 fB oB yB bw br width wrap .busy none p g q s.x s.over O1 w) (hJ : c1.J s.rows O1 w) (hbx : w.heap[bx]? = some (.cells #[.slice A n c, .int .i64 pos, .bool fd] 96 (0, 0))) (hw0 : 4 ≤ width) (hw : width ≤ 1000000)
    (hi : s.rows ++ [rowOf (if s.over then s.x else s.x.end_ pos)] <+: c1.items) (hlo : c1.lo ≤ w.heap.size) (hba : c1.base ≤ w.heap.size)
    (hQ1 : ∀ a O1' p' g' q' w', c1.J (s.rows ++ [rowOf (if s.over then s.x else s.x.end_ pos)]) O1' w' → St2 c1 r l2 fB oB yB bw br width wrap .busy none p' g' q' (newFil width) false O1' w' → Step (OT l2 fB oB p g q O1) (OT l2 fB oB p' g' q' O1') w w' → Q .normal a w')
    (hQ2 : ∀ a O1' w', c1.D (s.rows ++ [rowOf (if s.over then s.x else s.x.end_ pos)]) O1' w' → w'.heap[l2]? = some (r.at .busy none) → ¬ O1' l2 → Step (OT l2 fB oB p g q O1) (OL l2 O1') w w' → Q .ret a w') :
    (condT (sndOf (inOf (inOf (bodyOf Tryd.f50))))).wpIn (Fence.wide.inRound l2) 0 Tryd.prog Q { tmps := #[u0, .pointer (some ⟨bw, 0, none⟩), u2, u3, .pointer (some ⟨br, 0, none⟩), u5, .pointer (some ⟨yB, 0, none⟩), .pointer (some ⟨fB, 0, none⟩), .pointer (some ⟨oB, 0, none⟩), .pointer (some ⟨bx, 0, none⟩), u10, u11, u12, u13, u14, u15, u16, u17, u18, u19, u20, u21, u22, u23, u24, u25, u26, u27, u28, u29, u30, u31, u32, u33, u34, u35, u36, u37, u38, u39, u40, u41, u42, u43, u44, u45, u46, u47, u48, u49, u50, u51, u52, u53, u54, u55, u56, u57, u58, u59, u60, u61, u62, u63, u64, u65, u66, u67, u68, u69, u70, u71, u72, u73], defers := [] } w := by
  rw [FEED_eq]
  refine wpIn_seq (feedA c1 r l2 fB oB yB bw br width wrap p g q bx s.x s.over O1 w A n c pos fd _ st hbx hw ?_)
  intro v21 v22 v23 v24 v25 v26 w1 st1 f1
  have own1 : ∀ b, b < w.heap.size → (b = p ∨ b = g ∨ b = q) → ¬ O1 b ∧ c1.lo ≤ b := by
    rintro b _ (rfl | rfl | rfl)
    · exact ⟨(st.own _ T2.p).1, (st.own _ T2.p).2.1⟩
    · exact ⟨(st.own _ T2.g).1, (st.own _ T2.g).2.1⟩
    · exact ⟨(st.own _ T2.q).1, (st.own _ T2.q).2.1⟩
  have hJ1 : c1.J s.rows O1 w1 := c1.stable hJ f1 own1
  have hlo1 : c1.lo ≤ w1.heap.size := Nat.le_trans hlo f1.size
  have hba1 : c1.base ≤ w1.heap.size := Nat.le_trans hba f1.size
  refine wpIn_seq ?_
  refine emit9 c1 r l2 fB oB yB bw br width wrap p g q (if s.over then s.x else s.x.end_ pos) s.over s.rows O1 w1 _ hJ1 st1 hi ?_ ?_
  · intro v27 v28 v29 v30 v31 v32 more O2 w2 _ hJ2 hS2
    have aft := st1.emit hlo1 hba1 hS2
    refine refill10 c1 r l2 fB oB yB bw br width wrap p bx s.over O2 w2 _ aft hw0 hw (fun b h => c1.lt hJ2 h) ?_
    intro v34 v35 p' g' q' w3 st3 f3 hp hg hq
    have hJ3 : c1.J (s.rows ++ [rowOf (if s.over then s.x else s.x.end_ pos)]) O2 w3 := c1.stable hJ2 f3 (by
      rintro b _ (rfl | rfl)
      · exact ⟨(aft.own _ (.inr (.inl rfl))).1, (aft.own _ (.inr (.inl rfl))).2.1⟩
      · exact ⟨(aft.own _ (.inr (.inr rfl))).1, (aft.own _ (.inr (.inr rfl))).2.1⟩)
    exact hQ1 _ O2 p' g' q' w3 hJ3 st3 (step_emit f1 hS2 f3 (fun b h => h.elim .inl (fun h => .inr (.inl h))) hp hg hq)
  · intro a O2 w2 hD hS2
    have aft := st1.emit hlo1 hba1 hS2
    exact hQ2 a O2 w2 hD aft.lrec (aft.own _ (.inl rfl)).1 (step_stop f1 hS2)
end Go.Proofs.YtppjgofjjcdcdaaDoor

/- layout.rows: a unit that is no line feed. -/
namespace Go.Proofs.YtppjgofjjcdcdaaDoor
open PLayoutRows
open Go.RowKit
attribute [local go_sem] Oper.semAt_some
set_option maxRecDepth 100000
/-- The unit's box and its cells, away from the round's own blocks. -/
structure UntAt (bx : Nat) (A : Option Addr) (c : Nat) (u : Unt) (O : Nat → Prop) (w : World) : Prop where
  box : w.heap[bx]? = some (.cells #[.slice A u.cells.length c, .int .i64 u.pos, .bool u.feed] 96 (0, 0))
  nbx : ¬ O bx
  len : u.cells.length ≤ 2
  cell : (u.cells = [] ∧ A = none) ∨ ∃ b, A = some ⟨b, 0, none⟩ ∧ w.heap[b]? = some (cellB u.cells) ∧ ¬ O b
theorem UntAt.fr {bx : Nat} {A : Option Addr} {c : Nat} {u : Unt} {O O' : Nat → Prop} {w w' : World} (h : UntAt bx A c u O w) (s : Step O O' w w') : UntAt bx A c u O' w' :=
  ⟨s.at h.box h.nbx, s.not (lt_of_block h.box) h.nbx, h.len, by
    rcases h.cell with h | ⟨b, h1, h2, h3⟩
    · exact .inl h
    · exact .inr ⟨b, h1, s.at h2 h3, s.not (lt_of_block h2) h3⟩⟩
section
variable {l2 fB oB p g q : Nat} {O1 : Nat → Prop} {w w1 : World}
theorem step_own {S : Nat → Prop} (f : Fr S w w1) (hS : ∀ b, b < w.heap.size → S b → T2 l2 fB oB p g q b) : Step (OT l2 fB oB p g q O1) (OT l2 fB oB p g q O1) w w1 := ⟨f.mono (fun b hb h => .inr (hS b hb h)), fun _ h => .inl h⟩
theorem pgq_T2 : ∀ b, (b = p ∨ b = g ∨ b = q) → T2 l2 fB oB p g q b := by
  rintro b (rfl | rfl | rfl)
  · exact T2.p
  · exact T2.g
  · exact T2.q
end
set_option maxHeartbeats 2000000 in
theorem elseA {u0 u2 u3 u5 u10 u11 u12 u13 u14 u15 u16 u17 u18 u19 u20 u21 u22 u23 u24 u25 u26 u27 u28 u29 u30 u31 u32 u33 u34 u35 u36 u37 u38 u39 u40 u41 u42 u43 u44 u45 u46 u47 u48 u49 u50 u51 u52 u53 u54 u55 u56 u57 u58 u59 u60 u61 u62 u63 u64 u65 u66 u67 u68 u69 u70 u71 u72 u73 : Value} (c1 : ConsR Tryd.prog) (r : Rec) (l2 fB oB yB bw br width : Nat) (wrap : Bool) (p g q bx : Nat) (x : Fil) (over : Bool) (O1 : Nat → Prop) (w : World) (A : Option Addr) (c : Nat) (u : Unt) (Q : Exit → Act → World → Prop)
    (st : St2 c1 r l2 fB oB yB bw br width wrap .busy none p g q x over O1 w) (hu : UntAt bx A c u (OT l2 fB oB p g q O1) w) (hw0 : 4 ≤ width) (hw : width ≤ 1000000)
    (hQ0 : ∀ (v37 v38 v39 v40 v41 v42 : Value), over = true → Q .normal { tmps := #[u0, .pointer (some ⟨bw, 0, none⟩), u2, u3, .pointer (some ⟨br, 0, none⟩), u5, .pointer (some ⟨yB, 0, none⟩), .pointer (some ⟨fB, 0, none⟩), .pointer (some ⟨oB, 0, none⟩), .pointer (some ⟨bx, 0, none⟩), u10, u11, u12, u13, u14, u15, u16, u17, u18, u19, u20, u21, u22, u23, u24, u25, u26, u27, u28, u29, u30, u31, u32, u33, u34, u35, .bool true, v37, v38, v39, v40, v41, v42, u43, u44, u45, u46, u47, u48, u49, u50, u51, u52, u53, u54, u55, u56, u57, u58, u59, u60, u61, u62, u63, u64, u65, u66, u67, u68, u69, u70, u71, u72, u73], defers := [] } w)
    (hQ1 : ∀ (v37 v38 v39 v40 v41 v42 : Value) (w' : World), over = false → x.fits u.cells.length = true → FilAt w' p g q (x.put u.cells u.pos) → Fr (fun b => b = p ∨ b = g ∨ b = q) w w' → Q .normal { tmps := #[u0, .pointer (some ⟨bw, 0, none⟩), u2, u3, .pointer (some ⟨br, 0, none⟩), u5, .pointer (some ⟨yB, 0, none⟩), .pointer (some ⟨fB, 0, none⟩), .pointer (some ⟨oB, 0, none⟩), .pointer (some ⟨bx, 0, none⟩), u10, u11, u12, u13, u14, u15, u16, u17, u18, u19, u20, u21, u22, u23, u24, u25, u26, u27, u28, u29, u30, u31, u32, u33, u34, u35, .bool true, v37, v38, v39, v40, v41, v42, u43, u44, u45, u46, u47, u48, u49, u50, u51, u52, u53, u54, u55, u56, u57, u58, u59, u60, u61, u62, u63, u64, u65, u66, u67, u68, u69, u70, u71, u72, u73], defers := [] } w')
    (hQ2 : ∀ (v37 v38 v39 v40 v41 v42 : Value) (w' : World), over = false → x.fits u.cells.length = false → Fr Non w w' → Q .normal { tmps := #[u0, .pointer (some ⟨bw, 0, none⟩), u2, u3, .pointer (some ⟨br, 0, none⟩), u5, .pointer (some ⟨yB, 0, none⟩), .pointer (some ⟨fB, 0, none⟩), .pointer (some ⟨oB, 0, none⟩), .pointer (some ⟨bx, 0, none⟩), u10, u11, u12, u13, u14, u15, u16, u17, u18, u19, u20, u21, u22, u23, u24, u25, u26, u27, u28, u29, u30, u31, u32, u33, u34, u35, .bool false, v37, v38, v39, v40, v41, v42, u43, u44, u45, u46, u47, u48, u49, u50, u51, u52, u53, u54, u55, u56, u57, u58, u59, u60, u61, u62, u63, u64, u65, u66, u67, u68, u69, u70, u71, u72, u73], defers := [] } w') :
    (fstOf (condE (sndOf (inOf (inOf (bodyOf Tryd.f50)))))).wpIn (Fence.wide.inRound l2) 0 Tryd.prog Q { tmps := #[u0, .pointer (some ⟨bw, 0, none⟩), u2, u3, .pointer (some ⟨br, 0, none⟩), u5, .pointer (some ⟨yB, 0, none⟩), .pointer (some ⟨fB, 0, none⟩), .pointer (some ⟨oB, 0, none⟩), .pointer (some ⟨bx, 0, none⟩), u10, u11, u12, u13, u14, u15, u16, u17, u18, u19, u20, u21, u22, u23, u24, u25, u26, u27, u28, u29, u30, u31, u32, u33, u34, u35, u36, u37, u38, u39, u40, u41, u42, u43, u44, u45, u46, u47, u48, u49, u50, u51, u52, u53, u54, u55, u56, u57, u58, u59, u60, u61, u62, u63, u64, u65, u66, u67, u68, u69, u70, u71, u72, u73], defers := [] } w := by
  simp only [bodyOf, Tryd.f50, Option.bind_some, rangeOf, Option.or_some, Option.or_none, Option.map_some, Option.getD_some, Option.getD_none, inOf, fstOf, sndOf, condT, condE]
  have d := st.dis
  have y1 : w.cell? ⟨oB, 0, none⟩ = some (.bool over) := cell_row st.o rfl
  have y2 : w.cell? ⟨fB, 0, none⟩ = some (.pointer (some ⟨p, 0, none⟩)) := cell_row st.f rfl
  have y3 : w.cell? ⟨bx, 0, none⟩ = some (.slice A u.cells.length c) := cell_row hu.box rfl
  have y4 : w.cell? ⟨bx, 1, none⟩ = some (.int .i64 u.pos) := cell_row hu.box rfl
  have y5 : w.cell? ⟨bx, 2, none⟩ = some (.bool u.feed) := cell_row hu.box rfl
  have HST := Lib.hid st
  have HU := Lib.hid hu
  have HQ0 := Lib.hid hQ0
  have HQ1 := Lib.hid hQ1
  have HQ2 := Lib.hid hQ2
  clear st hu hQ0 hQ1 hQ2
  cases over with
  | true =>
    gi_wp2
    refine ⟨trivial, ?_⟩
    gi_wp2
    exact HQ0.out _ _ _ _ _ _ trivial
  | false =>
    have hl0 : 0 < x.cells.length := by rw [HST.out.ok.c]; omega
    have hl : x.cells.length ≤ 1000000 := by rw [HST.out.ok.c]; exact hw
    have hlp : x.pos.length = x.cells.length := by rw [HST.out.ok.c, HST.out.ok.p]
    have hk : u.cells.length ≤ 1000000 := by have := HU.out.len; omega
    cases hf : x.fits u.cells.length with
    | true =>
      have hE := put_yes p g q x A u.cells c u.pos u.feed w HST.out.fil hl0 hl hk hlp (C_cellB HU.out.len (fun h => by
        rcases HU.out.cell with ⟨h', _⟩ | ⟨b, h1, h2, _⟩
        · exact absurd h' h
        · exact ⟨b, h1, h2⟩)) (?hA) (of_decide_eq_true hf) d.pq (Ne.symm d.pg) d.gq
      have HE := Lib.hid (in_round l2 hE)
      have HF := Lib.hid hf
      clear hE d hf hl0 hl hlp hk
      gi_wp2_with fail
      refine ⟨trivial, rfl, HE.out.mono ?_⟩
      rintro e w1 ⟨rfl, hff, hfr⟩
      have HFF := Lib.hid hff
      have HFR := Lib.hid hfr
      clear hff hfr
      gi_wp2
      exact HQ1.out _ _ _ _ _ _ w1 trivial HF.out HFF.out HFR.out
      case hA =>
        intro ad hA
        rcases HU.out.cell with ⟨_, h⟩ | ⟨b, h1, _, h3⟩
        · rw [h] at hA; cases hA
        · rw [h1] at hA
          cases hA
          exact ⟨fun h => h3 (by rw [show b = p from h]; exact .inr T2.p), fun h => h3 (by rw [show b = g from h]; exact .inr T2.g), fun h => h3 (by rw [show b = q from h]; exact .inr T2.q)⟩
    | false =>
      have hE := put_no p g q x A u.cells.length c u.pos u.feed w HST.out.fil hl0 hl hk (by have := HST.out.ok.n; omega) (by have := of_decide_eq_false hf; omega)
      have HE := Lib.hid (in_round l2 hE)
      have HF := Lib.hid hf
      clear hE d hf hl0 hl hlp hk
      gi_wp2_with fail
      refine ⟨trivial, rfl, HE.out.mono ?_⟩
      rintro e w1 ⟨rfl, hfr⟩
      have HFR := Lib.hid hfr
      clear hfr
      gi_wp2
      exact HQ2.out _ _ _ _ _ _ w1 trivial HF.out HFR.out
end Go.Proofs.YtppjgofjjcdcdaaDoor

/- layout.rows: a row is cut: its mark; the unit on a new row; or the line is over. -/
namespace Go.Proofs.YtppjgofjjcdcdaaDoor
open PLayoutRows
open Go.RowKit
attribute [local go_sem] Oper.semAt_some
set_option maxRecDepth 100000
set_option maxHeartbeats 2000000 in
theorem wrapA {u0 u2 u3 u5 u10 u11 u12 u13 u14 u15 u16 u17 u18 u19 u20 u21 u22 u23 u24 u25 u26 u27 u28 u29 u30 u31 u32 u33 u34 u35 u36 u37 u38 u39 u40 u41 u42 u43 u44 u45 u46 u47 u48 u49 u50 u51 u52 u53 u54 u55 u56 u57 u58 u59 u60 u61 u62 u63 u64 u65 u66 u67 u68 u69 u70 u71 u72 u73 : Value} (c1 : ConsR Tryd.prog) (r : Rec) (l2 fB oB yB bw br width : Nat) (wrap : Bool) (p g q bx : Nat) (x : Fil) (over : Bool) (O1 : Nat → Prop) (w : World) (Q : Exit → Act → World → Prop)
    (st : St2 c1 r l2 fB oB yB bw br width wrap .busy none p g q x over O1 w) (hw0 : 4 ≤ width) (hw : width ≤ 1000000)
    (hQ : ∀ (v45 v46 v47 v48 v49 v50 : Value) (w' : World), FilAt w' p g q x.cut → Fr (fun b => b = p ∨ b = g ∨ b = q) w w' → ((sndOf (sndOf (condT (sndOf (condE (sndOf (condE (sndOf (inOf (inOf (bodyOf Tryd.f50)))))))))))).wpIn (Fence.wide.inRound l2) 0 Tryd.prog Q { tmps := #[u0, .pointer (some ⟨bw, 0, none⟩), u2, u3, .pointer (some ⟨br, 0, none⟩), u5, .pointer (some ⟨yB, 0, none⟩), .pointer (some ⟨fB, 0, none⟩), .pointer (some ⟨oB, 0, none⟩), .pointer (some ⟨bx, 0, none⟩), u10, u11, u12, u13, u14, u15, u16, u17, u18, u19, u20, u21, u22, u23, u24, u25, u26, u27, u28, u29, u30, u31, u32, u33, u34, u35, u36, u37, u38, u39, u40, u41, u42, u43, u44, v45, v46, v47, v48, v49, v50, u51, u52, u53, u54, u55, u56, u57, u58, u59, u60, u61, u62, u63, u64, u65, u66, u67, u68, u69, u70, u71, u72, u73], defers := [] } w') :
    (condT (sndOf (condE (sndOf (condE (sndOf (inOf (inOf (bodyOf Tryd.f50))))))))).wpIn (Fence.wide.inRound l2) 0 Tryd.prog Q { tmps := #[u0, .pointer (some ⟨bw, 0, none⟩), u2, u3, .pointer (some ⟨br, 0, none⟩), u5, .pointer (some ⟨yB, 0, none⟩), .pointer (some ⟨fB, 0, none⟩), .pointer (some ⟨oB, 0, none⟩), .pointer (some ⟨bx, 0, none⟩), u10, u11, u12, u13, u14, u15, u16, u17, u18, u19, u20, u21, u22, u23, u24, u25, u26, u27, u28, u29, u30, u31, u32, u33, u34, u35, u36, u37, u38, u39, u40, u41, u42, u43, u44, u45, u46, u47, u48, u49, u50, u51, u52, u53, u54, u55, u56, u57, u58, u59, u60, u61, u62, u63, u64, u65, u66, u67, u68, u69, u70, u71, u72, u73], defers := [] } w := by
  have e : condT (sndOf (condE (sndOf (condE (sndOf (inOf (inOf (bodyOf Tryd.f50)))))))) = .seq (fstOf (condT (sndOf (condE (sndOf (condE (sndOf (inOf (inOf (bodyOf Tryd.f50)))))))))) (.seq (fstOf (sndOf (condT (sndOf (condE (sndOf (condE (sndOf (inOf (inOf (bodyOf Tryd.f50))))))))))) (sndOf (sndOf (condT (sndOf (condE (sndOf (condE (sndOf (inOf (inOf (bodyOf Tryd.f50)))))))))))) := rfl
  rw [e]
  clear e
  obtain ⟨T, hT⟩ : ∃ T, sndOf (sndOf (condT (sndOf (condE (sndOf (condE (sndOf (inOf (inOf (bodyOf Tryd.f50)))))))))) = T := ⟨_, rfl⟩
  rw [hT] at hQ ⊢
  clear hT
  simp only [bodyOf, Tryd.f50, Option.bind_some, rangeOf, Option.or_some, Option.or_none, Option.map_some, Option.getD_some, Option.getD_none, inOf, fstOf, sndOf, condT, condE]
  have d := st.dis
  have y2 : w.cell? ⟨fB, 0, none⟩ = some (.pointer (some ⟨p, 0, none⟩)) := cell_row st.f rfl
  have hE := mark_any p g q x 92 w st.fil (by rw [st.ok.c]; omega) (by rw [st.ok.c]; exact hw) (Ne.symm d.pg) d.gq
  have HE := Lib.hid (in_round l2 hE)
  have HST := Lib.hid st
  have HQ := Lib.hid hQ
  clear st hQ hE
  gi_wp2_with fail
  refine ⟨trivial, rfl, HE.out.mono ?_⟩
  rintro e w1 ⟨rfl, hf, hfr⟩
  have F1 := hfr.at HST.out.f d.fg
  have z1 : w1.cell? ⟨fB, 0, none⟩ = some (.pointer (some ⟨p, 0, none⟩)) := cell_row F1 rfl
  have z2 : w1.cell? ⟨p, 4, none⟩ = some (.bool x.cont) := cell_row hf.1 rfl
  have z3 : w1.frozen? ⟨p, 4, none⟩ = false := free_row hf.1
  have HF := Lib.hid hf
  have HFR := Lib.hid hfr
  clear hf hfr F1
  gi_wp2_with fail
  refine HQ.out _ _ _ _ _ _ _ ⟨hs_same HF.out.1, hs_other HF.out.2.1 (Ne.symm d.pg), hs_other HF.out.2.2 (Ne.symm d.pq)⟩ ((HFR.out.mono (fun b _ h => .inr (.inl h))).setCell _ _ (fun _ => .inl rfl))
set_option maxHeartbeats 2000000 in
theorem cutL {u0 u2 u3 u5 u10 u11 u12 u13 u14 u15 u16 u17 u18 u19 u20 u21 u22 u23 u24 u25 u26 u27 u28 u29 u30 u31 u32 u33 u34 u35 u36 u37 u38 u39 u40 u41 u42 u43 u44 u45 u46 u47 u48 u49 u50 u51 u52 u53 u54 u55 u56 u57 u58 u59 u60 u61 u62 u63 u64 u65 u66 u67 u68 u69 u70 u71 u72 u73 : Value} (c1 : ConsR Tryd.prog) (r : Rec) (l2 fB oB yB bw br width : Nat) (wrap : Bool) (p g q bx : Nat) (x : Fil) (O1 : Nat → Prop) (w : World) (Q : Exit → Act → World → Prop)
    (st : St2 c1 r l2 fB oB yB bw br width wrap .busy none p g q x false O1 w) (hw0 : 4 ≤ width) (hw : width ≤ 1000000)
    (hQ : ∀ (a : Act) (w' : World), St2 c1 r l2 fB oB yB bw br width wrap .busy none p g q (x.mark 36) true O1 w' → Fr (fun b => b = g ∨ b = oB) w w' → Q .normal a w') :
    (condE (sndOf (condE (sndOf (condE (sndOf (inOf (inOf (bodyOf Tryd.f50))))))))).wpIn (Fence.wide.inRound l2) 0 Tryd.prog Q { tmps := #[u0, .pointer (some ⟨bw, 0, none⟩), u2, u3, .pointer (some ⟨br, 0, none⟩), u5, .pointer (some ⟨yB, 0, none⟩), .pointer (some ⟨fB, 0, none⟩), .pointer (some ⟨oB, 0, none⟩), .pointer (some ⟨bx, 0, none⟩), u10, u11, u12, u13, u14, u15, u16, u17, u18, u19, u20, u21, u22, u23, u24, u25, u26, u27, u28, u29, u30, u31, u32, u33, u34, u35, u36, u37, u38, u39, u40, u41, u42, u43, u44, u45, u46, u47, u48, u49, u50, u51, u52, u53, u54, u55, u56, u57, u58, u59, u60, u61, u62, u63, u64, u65, u66, u67, u68, u69, u70, u71, u72, u73], defers := [] } w := by
  simp only [bodyOf, Tryd.f50, Option.bind_some, rangeOf, Option.or_some, Option.or_none, Option.map_some, Option.getD_some, Option.getD_none, inOf, fstOf, sndOf, condT, condE]
  have d := st.dis
  have y2 : w.cell? ⟨fB, 0, none⟩ = some (.pointer (some ⟨p, 0, none⟩)) := cell_row st.f rfl
  have hE := mark_any p g q x 36 w st.fil (by rw [st.ok.c]; omega) (by rw [st.ok.c]; exact hw) (Ne.symm d.pg) d.gq
  have HE := Lib.hid (in_round l2 hE)
  have HST := Lib.hid st
  have HQ := Lib.hid hQ
  clear st hQ hE
  gi_wp2_with fail
  refine ⟨trivial, rfl, HE.out.mono ?_⟩
  rintro e w1 ⟨rfl, hf, hfr⟩
  have st1 := HST.out.fill (hfr.mono (fun b _ h => .inr (.inl h))) hf (mark_ok HST.out.ok 36)
  have z2 : w1.cell? ⟨oB, 0, none⟩ = some (.bool false) := cell_row st1.o rfl
  have z3 : w1.frozen? ⟨oB, 0, none⟩ = false := free_row st1.o
  have HS1 := Lib.hid st1
  have HFR := Lib.hid hfr
  clear hf hfr st1
  gi_wp2
  have s := HS1.out
  have f : Fr (fun b => b = oB) w1 (w1.setCell ⟨oB, 0, none⟩ (.bool true)) := (Fr.refl _ _).setCell _ _ (fun _ => rfl)
  have oo := (s.own oB T2.o).2.2.2
  refine HQ.out _ _ ⟨f.at s.lrec d.lo, f.at s.f d.fo, hs_same s.o, ⟨f.at s.fil.1 (Ne.symm d.op), f.at s.fil.2.1 (Ne.symm d.og), f.at s.fil.2.2 (Ne.symm d.oq)⟩, f.at s.y (Ne.symm oo.1), f.at s.w (Ne.symm oo.2.1), f.at s.b (Ne.symm oo.2.2), s.own, s.ny, s.nw, s.nb, s.ok⟩ ?_
  exact (HFR.out.mono (fun b _ h => .inl h)).trans (f.mono (fun b _ h => .inr h))
set_option maxHeartbeats 2000000 in
theorem put17 {u0 u2 u3 u5 u10 u11 u12 u13 u14 u15 u16 u17 u18 u19 u20 u21 u22 u23 u24 u25 u26 u27 u28 u29 u30 u31 u32 u33 u34 u35 u36 u37 u38 u39 u40 u41 u42 u43 u44 u45 u46 u47 u48 u49 u50 u51 u52 u53 u54 u55 u56 u57 u58 u59 u60 u61 u62 u63 u64 u65 u66 u67 u68 u69 u70 u71 u72 u73 : Value} (c1 : ConsR Tryd.prog) (r : Rec) (l2 fB oB yB bw br width : Nat) (wrap : Bool) (p g q bx : Nat) (x : Fil) (over : Bool) (O1 : Nat → Prop) (w : World) (A : Option Addr) (c : Nat) (u : Unt) (Q : Exit → Act → World → Prop)
    (st : St2 c1 r l2 fB oB yB bw br width wrap .busy none p g q x over O1 w) (hu : UntAt bx A c u (OT l2 fB oB p g q O1) w) (hw0 : 4 ≤ width) (hw : width ≤ 1000000) (hf : x.fits u.cells.length = true)
    (hQ1 : ∀ (v60 v61 v62 : Value) (w' : World), FilAt w' p g q (x.put u.cells u.pos) → Fr (fun b => b = p ∨ b = g ∨ b = q) w w' → Q .normal { tmps := #[u0, .pointer (some ⟨bw, 0, none⟩), u2, u3, .pointer (some ⟨br, 0, none⟩), u5, .pointer (some ⟨yB, 0, none⟩), .pointer (some ⟨fB, 0, none⟩), .pointer (some ⟨oB, 0, none⟩), .pointer (some ⟨bx, 0, none⟩), u10, u11, u12, u13, u14, u15, u16, u17, u18, u19, u20, u21, u22, u23, u24, u25, u26, u27, u28, u29, u30, u31, u32, u33, u34, u35, u36, u37, u38, u39, u40, u41, u42, u43, u44, u45, u46, u47, u48, u49, u50, u51, u52, u53, u54, u55, u56, u57, u58, u59, v60, v61, v62, u63, u64, u65, u66, u67, u68, u69, u70, u71, u72, u73], defers := [] } w') :
    (sndOf (sndOf (sndOf (sndOf (condT (sndOf (condE (sndOf (condE (sndOf (inOf (inOf (bodyOf Tryd.f50))))))))))))).wpIn (Fence.wide.inRound l2) 0 Tryd.prog Q { tmps := #[u0, .pointer (some ⟨bw, 0, none⟩), u2, u3, .pointer (some ⟨br, 0, none⟩), u5, .pointer (some ⟨yB, 0, none⟩), .pointer (some ⟨fB, 0, none⟩), .pointer (some ⟨oB, 0, none⟩), .pointer (some ⟨bx, 0, none⟩), u10, u11, u12, u13, u14, u15, u16, u17, u18, u19, u20, u21, u22, u23, u24, u25, u26, u27, u28, u29, u30, u31, u32, u33, u34, u35, u36, u37, u38, u39, u40, u41, u42, u43, u44, u45, u46, u47, u48, u49, u50, u51, u52, u53, u54, u55, u56, u57, u58, u59, u60, u61, u62, u63, u64, u65, u66, u67, u68, u69, u70, u71, u72, u73], defers := [] } w := by
  simp only [bodyOf, Tryd.f50, Option.bind_some, rangeOf, Option.or_some, Option.or_none, Option.map_some, Option.getD_some, Option.getD_none, inOf, fstOf, sndOf, condT, condE]
  have d := st.dis
  have y2 : w.cell? ⟨fB, 0, none⟩ = some (.pointer (some ⟨p, 0, none⟩)) := cell_row st.f rfl
  have y3 : w.cell? ⟨bx, 0, none⟩ = some (.slice A u.cells.length c) := cell_row hu.box rfl
  have y4 : w.cell? ⟨bx, 1, none⟩ = some (.int .i64 u.pos) := cell_row hu.box rfl
  have y5 : w.cell? ⟨bx, 2, none⟩ = some (.bool u.feed) := cell_row hu.box rfl
  have HST := Lib.hid st
  have HU := Lib.hid hu
  have HQ1 := Lib.hid hQ1
  clear st hu hQ1
  have hl0 : 0 < x.cells.length := by rw [HST.out.ok.c]; omega
  have hl : x.cells.length ≤ 1000000 := by rw [HST.out.ok.c]; exact hw
  have hlp : x.pos.length = x.cells.length := by rw [HST.out.ok.c, HST.out.ok.p]
  have hk : u.cells.length ≤ 1000000 := by have := HU.out.len; omega
  have hE := put_yes p g q x A u.cells c u.pos u.feed w HST.out.fil hl0 hl hk hlp (C_cellB HU.out.len (fun h => by
        rcases HU.out.cell with ⟨h', _⟩ | ⟨b, h1, h2, _⟩
        · exact absurd h' h
        · exact ⟨b, h1, h2⟩)) (?hA) (of_decide_eq_true hf) d.pq (Ne.symm d.pg) d.gq
  have HE := Lib.hid (in_round l2 hE)
  clear hE d hf hl0 hl hlp hk
  gi_wp2_with fail
  refine ⟨trivial, rfl, HE.out.mono ?_⟩
  rintro e w1 ⟨rfl, hff, hfr⟩
  have HFF := Lib.hid hff
  have HFR := Lib.hid hfr
  clear hff hfr
  gi_wp2
  exact HQ1.out _ _ _ w1 HFF.out HFR.out
  case hA =>
    intro ad hA
    rcases HU.out.cell with ⟨_, h⟩ | ⟨b, h1, _, h3⟩
    · rw [h] at hA; cases hA
    · rw [h1] at hA
      cases hA
      exact ⟨fun h => h3 (by rw [show b = p from h]; exact .inr T2.p), fun h => h3 (by rw [show b = g from h]; exact .inr T2.g), fun h => h3 (by rw [show b = q from h]; exact .inr T2.q)⟩
end Go.Proofs.YtppjgofjjcdcdaaDoor

/- layout.rows: a unit that is no line feed, whole. -/
namespace Go.Proofs.YtppjgofjjcdcdaaDoor
open PLayoutRows
open Go.RowKit
attribute [local go_sem] Oper.semAt_some
set_option maxRecDepth 100000
theorem r12 {u0 u2 u3 u5 u10 u11 u12 u13 u14 u15 u16 u17 u18 u19 u20 u21 u22 u23 u24 u25 u26 u27 u28 u29 u30 u31 u32 u33 u34 u35 u36 u37 u38 u39 u40 u41 u42 u43 u44 u45 u46 u47 u48 u49 u50 u51 u52 u53 u54 u55 u56 u57 u58 u59 u60 u61 u62 u63 u64 u65 u66 u67 u68 u69 u70 u71 u72 u73 : Value} (c1 : ConsR Tryd.prog) (r : Rec) (l2 fB oB yB bw br width : Nat) (wrap : Bool) (p g q bx : Nat) (x : Fil) (over : Bool) (O1 : Nat → Prop) (w : World) (Q : Exit → Act → World → Prop)
    (st : St2 c1 r l2 fB oB yB bw br width wrap .busy none p g q x over O1 w) (hQ : ∀ (v44 : Value), Q .normal { tmps := #[u0, .pointer (some ⟨bw, 0, none⟩), u2, u3, .pointer (some ⟨br, 0, none⟩), u5, .pointer (some ⟨yB, 0, none⟩), .pointer (some ⟨fB, 0, none⟩), .pointer (some ⟨oB, 0, none⟩), .pointer (some ⟨bx, 0, none⟩), u10, u11, u12, u13, u14, u15, u16, u17, u18, u19, u20, u21, u22, u23, u24, u25, u26, u27, u28, u29, u30, u31, u32, u33, u34, u35, u36, u37, u38, u39, u40, u41, u42, .bool wrap, v44, u45, u46, u47, u48, u49, u50, u51, u52, u53, u54, u55, u56, u57, u58, u59, u60, u61, u62, u63, u64, u65, u66, u67, u68, u69, u70, u71, u72, u73], defers := [] } w) :
    (fstOf (condE (sndOf (condE (sndOf (inOf (inOf (bodyOf Tryd.f50)))))))).wpIn (Fence.wide.inRound l2) 0 Tryd.prog Q { tmps := #[u0, .pointer (some ⟨bw, 0, none⟩), u2, u3, .pointer (some ⟨br, 0, none⟩), u5, .pointer (some ⟨yB, 0, none⟩), .pointer (some ⟨fB, 0, none⟩), .pointer (some ⟨oB, 0, none⟩), .pointer (some ⟨bx, 0, none⟩), u10, u11, u12, u13, u14, u15, u16, u17, u18, u19, u20, u21, u22, u23, u24, u25, u26, u27, u28, u29, u30, u31, u32, u33, u34, u35, u36, u37, u38, u39, u40, u41, u42, u43, u44, u45, u46, u47, u48, u49, u50, u51, u52, u53, u54, u55, u56, u57, u58, u59, u60, u61, u62, u63, u64, u65, u66, u67, u68, u69, u70, u71, u72, u73], defers := [] } w := by
  simp only [bodyOf, Tryd.f50, Option.bind_some, rangeOf, Option.or_some, Option.or_none, Option.map_some, Option.getD_some, Option.getD_none, inOf, fstOf, sndOf, condT, condE]
  have y : w.cell? ⟨br, 0, none⟩ = some (.bool wrap) := cell_row st.b rfl
  have HQ := Lib.hid hQ
  clear st hQ
  gi_wp2
  exact HQ.out _
theorem ELSE_eq : condE (sndOf (inOf (inOf (bodyOf Tryd.f50)))) = .seq (fstOf (condE (sndOf (inOf (inOf (bodyOf Tryd.f50)))))) (.cond (.tmp 36) .skip (condE (sndOf (condE (sndOf (inOf (inOf (bodyOf Tryd.f50)))))))) := rfl
theorem X_eq : condE (sndOf (condE (sndOf (inOf (inOf (bodyOf Tryd.f50)))))) = .seq (fstOf (condE (sndOf (condE (sndOf (inOf (inOf (bodyOf Tryd.f50)))))))) (.cond (.tmp 43) (condT (sndOf (condE (sndOf (condE (sndOf (inOf (inOf (bodyOf Tryd.f50))))))))) (condE (sndOf (condE (sndOf (condE (sndOf (inOf (inOf (bodyOf Tryd.f50)))))))))) := rfl
theorem WRAP_eq : sndOf (sndOf (condT (sndOf (condE (sndOf (condE (sndOf (inOf (inOf (bodyOf Tryd.f50)))))))))) = .seq (fstOf (sndOf (sndOf (condT (sndOf (condE (sndOf (condE (sndOf (inOf (inOf (bodyOf Tryd.f50)))))))))))) (.seq (fstOf (sndOf (sndOf (sndOf (condT (sndOf (condE (sndOf (condE (sndOf (inOf (inOf (bodyOf Tryd.f50))))))))))))) (sndOf (sndOf (sndOf (sndOf (condT (sndOf (condE (sndOf (condE (sndOf (inOf (inOf (bodyOf Tryd.f50)))))))))))))) := rfl
theorem else2 {u0 u2 u3 u5 u10 u11 u12 u13 u14 u15 u16 u17 u18 u19 u20 u21 u22 u23 u24 u25 u26 u27 u28 u29 u30 u31 u32 u33 u34 u35 u36 u37 u38 u39 u40 u41 u42 u43 u44 u45 u46 u47 u48 u49 u50 u51 u52 u53 u54 u55 u56 u57 u58 u59 u60 u61 u62 u63 u64 u65 u66 u67 u68 u69 u70 u71 u72 u73 : Value} (c1 : ConsR Tryd.prog) (r : Rec) (l2 fB oB yB bw br width : Nat) (wrap : Bool) (p g q bx : Nat) (s : RS) (O1 : Nat → Prop) (w : World) (A : Option Addr) (c : Nat) (u : Unt) (Q : Exit → Act → World → Prop)
    (st : St2 c1 r l2 fB oB yB bw br width wrap .busy none p g q s.x s.over O1 w) (hJ : c1.J s.rows O1 w) (hu : UntAt bx A c u (OT l2 fB oB p g q O1) w) (hfd : u.feed = false) (hw0 : 4 ≤ width) (hw : width ≤ 1000000)
    (hi : (stepR width wrap s u).rows <+: c1.items) (hlo : c1.lo ≤ w.heap.size) (hba : c1.base ≤ w.heap.size)
    (hQ1 : ∀ a O1' p' g' q' w', c1.J (stepR width wrap s u).rows O1' w' → St2 c1 r l2 fB oB yB bw br width wrap .busy none p' g' q' (stepR width wrap s u).x (stepR width wrap s u).over O1' w' → Step (OT l2 fB oB p g q O1) (OT l2 fB oB p' g' q' O1') w w' → Q .normal a w')
    (hQ2 : ∀ a O1' w', c1.D (stepR width wrap s u).rows O1' w' → w'.heap[l2]? = some (r.at .busy none) → ¬ O1' l2 → Step (OT l2 fB oB p g q O1) (OL l2 O1') w w' → Q .ret a w') :
    (condE (sndOf (inOf (inOf (bodyOf Tryd.f50))))).wpIn (Fence.wide.inRound l2) 0 Tryd.prog Q { tmps := #[u0, .pointer (some ⟨bw, 0, none⟩), u2, u3, .pointer (some ⟨br, 0, none⟩), u5, .pointer (some ⟨yB, 0, none⟩), .pointer (some ⟨fB, 0, none⟩), .pointer (some ⟨oB, 0, none⟩), .pointer (some ⟨bx, 0, none⟩), u10, u11, u12, u13, u14, u15, u16, u17, u18, u19, u20, u21, u22, u23, u24, u25, u26, u27, u28, u29, u30, u31, u32, u33, u34, u35, u36, u37, u38, u39, u40, u41, u42, u43, u44, u45, u46, u47, u48, u49, u50, u51, u52, u53, u54, u55, u56, u57, u58, u59, u60, u61, u62, u63, u64, u65, u66, u67, u68, u69, u70, u71, u72, u73], defers := [] } w := by
  have pgqO : ∀ b, b < w.heap.size → (b = p ∨ b = g ∨ b = q) → ¬ O1 b ∧ c1.lo ≤ b := fun b _ h => ⟨(st.own b (pgq_T2 b h)).1, (st.own b (pgq_T2 b h)).2.1⟩
  rw [ELSE_eq]
  refine wpIn_seq (elseA c1 r l2 fB oB yB bw br width wrap p g q bx s.x s.over O1 w A c u _ st hu hw0 hw ?_ ?_ ?_)
  · intro v37 v38 v39 v40 v41 v42 hov
    refine wpIn_cond_true rfl (wpIn_skip ?_)
    have e : stepR width wrap s u = s := by simp [stepR, hfd, hov]
    exact hQ1 _ O1 p g q w (by rw [e]; exact hJ) (by rw [e]; exact st) (Step.refl _ _)
  · intro v37 v38 v39 v40 v41 v42 w1 hov hf hfil hfr
    refine wpIn_cond_true rfl (wpIn_skip ?_)
    have e : stepR width wrap s u = ⟨s.x.put u.cells u.pos, false, s.rows⟩ := by simp [stepR, hfd, hov, hf]
    have st1 := st.fill hfr hfil (put_ok st.ok hf u.pos)
    exact hQ1 _ O1 p g q w1 (by rw [e]; exact c1.stable hJ hfr pgqO) (by rw [e]; rw [hov] at st1; exact st1) (step_own hfr (fun b _ h => pgq_T2 b h))
  · intro v37 v38 v39 v40 v41 v42 w1 hov hf hfr
    refine wpIn_cond_false rfl ?_
    have fd : Fr (fun b => b = p ∨ b = g ∨ b = q) w w1 := hfr.mono (fun _ _ h => h.elim)
    have st1 := st.fill fd ⟨hfr.at st.fil.1 id, hfr.at st.fil.2.1 id, hfr.at st.fil.2.2 id⟩ st.ok
    rw [hov] at st1
    have hJ1 : c1.J s.rows O1 w1 := c1.stable hJ hfr (fun _ _ h => h.elim)
    have hS1 : Step (OT l2 fB oB p g q O1) (OT l2 fB oB p g q O1) w w1 := step_own hfr (fun _ _ h => h.elim)
    have hu1 := hu.fr hS1
    rw [X_eq]
    refine wpIn_seq (r12 c1 r l2 fB oB yB bw br width wrap p g q bx s.x false O1 w1 _ st1 ?_)
    intro v44
    cases hwr : wrap with
    | false =>
      refine wpIn_cond_false rfl ?_
      subst hwr
      have e : stepR width false s u = ⟨s.x.mark 36, true, s.rows⟩ := by simp [stepR, hfd, hov, hf]
      refine cutL c1 r l2 fB oB yB bw br width false p g q bx s.x O1 w1 _ st1 hw0 hw ?_
      intro a w2 st2 f2
      have own2 : ∀ b, b < w1.heap.size → (b = g ∨ b = oB) → ¬ O1 b ∧ c1.lo ≤ b := by
        rintro b _ (rfl | rfl)
        · exact ⟨(st1.own _ T2.g).1, (st1.own _ T2.g).2.1⟩
        · exact ⟨(st1.own _ T2.o).1, (st1.own _ T2.o).2.1⟩
      exact hQ1 a O1 p g q w2 (by rw [e]; exact c1.stable hJ1 f2 own2) (by rw [e]; exact st2) (hS1.trans (step_own f2 (by
        rintro b _ (rfl | rfl)
        · exact T2.g
        · exact T2.o)))
    | true =>
      refine wpIn_cond_true rfl ?_
      subst hwr
      have e : stepR width true s u = ⟨(newFil width).put u.cells u.pos, false, s.rows ++ [rowOf s.x.cut]⟩ := by simp [stepR, hfd, hov, hf]
      refine wrapA c1 r l2 fB oB yB bw br width true p g q bx s.x false O1 w1 _ st1 hw0 hw ?_
      intro v45 v46 v47 v48 v49 v50 w2 hfil2 f2
      have st2 := st1.fill f2 hfil2 (cut_ok st1.ok)
      have hJ2 : c1.J s.rows O1 w2 := c1.stable hJ1 f2 (fun b _ h => ⟨(st1.own b (pgq_T2 b h)).1, (st1.own b (pgq_T2 b h)).2.1⟩)
      have hlo2 : c1.lo ≤ w2.heap.size := Nat.le_trans hlo (Nat.le_trans hfr.size f2.size)
      have hba2 : c1.base ≤ w2.heap.size := Nat.le_trans hba (Nat.le_trans hfr.size f2.size)
      rw [WRAP_eq]
      rw [e] at hi
      refine wpIn_seq (emit15 c1 r l2 fB oB yB bw br width true p g q s.x.cut false s.rows O1 w2 _ hJ2 st2 hi ?_ ?_)
      · intro v51 v52 v53 v54 v55 v56 more O2 w3 _ hJ3 hS3
        have aft := st2.emit hlo2 hba2 hS3
        refine wpIn_seq (refill16 c1 r l2 fB oB yB bw br width true p bx false O2 w3 _ aft hw0 hw (fun b h => c1.lt hJ3 h) rfl ?_)
        intro v58 v59 p' g' q' w4 st4 f4 hp hg hq
        have hJ4 : c1.J (s.rows ++ [rowOf s.x.cut]) O2 w4 := c1.stable hJ3 f4 (by
          rintro b _ rfl
          exact ⟨(aft.own _ (.inr (.inl rfl))).1, (aft.own _ (.inr (.inl rfl))).2.1⟩)
        have hS4 : Step (OT l2 fB oB p g q O1) (OT l2 fB oB p' g' q' O2) w w4 := hS1.trans (step_emit f2 hS3 f4 (fun b h => .inl h) hp hg hq)
        have hu4 := hu.fr hS4
        have hfit : (newFil width).fits u.cells.length = true := decide_eq_true (by have := hu.len; simp [newFil, blankP]; omega)
        refine put17 c1 r l2 fB oB yB bw br width true p' g' q' bx (newFil width) false O2 w4 A c u _ st4 hu4 hw0 hw hfit ?_
        intro v60 v61 v62 w5 hfil5 f5
        have st5 := st4.fill f5 hfil5 (put_ok st4.ok hfit u.pos)
        exact hQ1 _ O2 p' g' q' w5 (by rw [e]; exact c1.stable hJ4 f5 (fun b _ h => ⟨(st4.own b (pgq_T2 b h)).1, (st4.own b (pgq_T2 b h)).2.1⟩)) (by rw [e]; exact st5) (hS4.trans (step_own f5 (fun b _ h => pgq_T2 b h)))
      · intro a O2 w3 hD hS3
        have aft := st2.emit hlo2 hba2 hS3
        exact hQ2 a O2 w3 (by rw [e]; exact hD) aft.lrec (aft.own _ (.inl rfl)).1 (hS1.trans (step_stop f2 hS3))
end Go.Proofs.YtppjgofjjcdcdaaDoor

/- layout.rows: a round of its loop over the units. -/
namespace Go.Proofs.YtppjgofjjcdcdaaDoor
open PLayoutRows
open Go.RowKit
attribute [local go_sem] Oper.semAt_some
set_option maxRecDepth 100000
theorem r6 {u0 u2 u3 u5 u10 u11 u12 u13 u14 u15 u16 u17 u18 u19 u20 u21 u22 u23 u24 u25 u26 u27 u28 u29 u30 u31 u32 u33 u34 u35 u36 u37 u38 u39 u40 u41 u42 u43 u44 u45 u46 u47 u48 u49 u50 u51 u52 u53 u54 u55 u56 u57 u58 u59 u60 u61 u62 u63 u64 u65 u66 u67 u68 u69 u70 u71 u72 u73 : Value} (l2 fB oB yB bw br bx : Nat) (w : World) (A : Option Addr) (n c : Nat) (pos : Int) (fd : Bool) (Q : Exit → Act → World → Prop)
    (hbx : w.heap[bx]? = some (.cells #[.slice A n c, .int .i64 pos, .bool fd] 96 (0, 0))) (hQ : ∀ (v19 v20 : Value), Q .normal { tmps := #[u0, .pointer (some ⟨bw, 0, none⟩), u2, u3, .pointer (some ⟨br, 0, none⟩), u5, .pointer (some ⟨yB, 0, none⟩), .pointer (some ⟨fB, 0, none⟩), .pointer (some ⟨oB, 0, none⟩), .pointer (some ⟨bx, 0, none⟩), u10, u11, u12, u13, u14, u15, u16, u17, .bool fd, v19, v20, u21, u22, u23, u24, u25, u26, u27, u28, u29, u30, u31, u32, u33, u34, u35, u36, u37, u38, u39, u40, u41, u42, u43, u44, u45, u46, u47, u48, u49, u50, u51, u52, u53, u54, u55, u56, u57, u58, u59, u60, u61, u62, u63, u64, u65, u66, u67, u68, u69, u70, u71, u72, u73], defers := [] } w) :
    (fstOf (inOf (inOf (bodyOf Tryd.f50)))).wpIn (Fence.wide.inRound l2) 0 Tryd.prog Q { tmps := #[u0, .pointer (some ⟨bw, 0, none⟩), u2, u3, .pointer (some ⟨br, 0, none⟩), u5, .pointer (some ⟨yB, 0, none⟩), .pointer (some ⟨fB, 0, none⟩), .pointer (some ⟨oB, 0, none⟩), .pointer (some ⟨bx, 0, none⟩), u10, u11, u12, u13, u14, u15, u16, u17, u18, u19, u20, u21, u22, u23, u24, u25, u26, u27, u28, u29, u30, u31, u32, u33, u34, u35, u36, u37, u38, u39, u40, u41, u42, u43, u44, u45, u46, u47, u48, u49, u50, u51, u52, u53, u54, u55, u56, u57, u58, u59, u60, u61, u62, u63, u64, u65, u66, u67, u68, u69, u70, u71, u72, u73], defers := [] } w := by
  simp only [bodyOf, Tryd.f50, Option.bind_some, rangeOf, Option.or_some, Option.or_none, Option.map_some, Option.getD_some, Option.getD_none, inOf, fstOf, sndOf, condT, condE]
  have y : w.cell? ⟨bx, 2, none⟩ = some (.bool fd) := cell_row hbx rfl
  have HQ := Lib.hid hQ
  clear hbx hQ
  gi_wp2
  exact HQ.out _ _
theorem B50_eq : bodyOf Tryd.f50 = .block 1 (.block 2 (.seq (fstOf (inOf (inOf (bodyOf Tryd.f50)))) (.cond (.tmp 18) (condT (sndOf (inOf (inOf (bodyOf Tryd.f50))))) (condE (sndOf (inOf (inOf (bodyOf Tryd.f50)))))))) := rfl
set_option maxHeartbeats 1000000 in
theorem round2 {u0 u2 u3 u5 u9 u10 u11 u12 u13 u14 u15 u16 u17 u18 u19 u20 u21 u22 u23 u24 u25 u26 u27 u28 u29 u30 u31 u32 u33 u34 u35 u36 u37 u38 u39 u40 u41 u42 u43 u44 u45 u46 u47 u48 u49 u50 u51 u52 u53 u54 u55 u56 u57 u58 u59 u60 u61 u62 u63 u64 u65 u66 u67 u68 u69 u70 u71 u72 u73 : Value} (c1 : ConsR Tryd.prog) (r : Rec) (l2 fB oB yB bw br width : Nat) (wrap : Bool) (fn D : Nat) (p g q : Nat) (s : RS) (O1 : Nat → Prop) (W : World) (u : Unt) (A : Option Addr) (n c : Nat)
    (hr : Rec.mk fn #[u0, .pointer (some ⟨bw, 0, none⟩), u2, u3, .pointer (some ⟨br, 0, none⟩), u5, .pointer (some ⟨yB, 0, none⟩), .pointer (some ⟨fB, 0, none⟩), .pointer (some ⟨oB, 0, none⟩), u9, u10, u11, u12, u13, u14, u15, u16, u17, u18, u19, u20, u21, u22, u23, u24, u25, u26, u27, u28, u29, u30, u31, u32, u33, u34, u35, u36, u37, u38, u39, u40, u41, u42, u43, u44, u45, u46, u47, u48, u49, u50, u51, u52, u53, u54, u55, u56, u57, u58, u59, u60, u61, u62, u63, u64, u65, u66, u67, u68, u69, u70, u71, u72, u73] #[15] (assignOf Tryd.f50) (bodyOf Tryd.f50) D = r)
    (hJ : c1.J s.rows O1 W) (st : St2 c1 r l2 fB oB yB bw br width wrap .ready none p g q s.x s.over O1 W) (hw0 : 4 ≤ width) (hw : width ≤ 1000000) (hn : n = u.cells.length) (hn2 : n ≤ 2)
    (hcell : (u.cells = [] ∧ A = none) ∨ ∃ b, A = some ⟨b, 0, none⟩ ∧ W.heap[b]? = some (cellB u.cells) ∧ ¬ OT l2 fB oB p g q O1 b)
    (hi : (stepR width wrap s u).rows <+: c1.items) (hlo : c1.lo ≤ W.heap.size) (hba : c1.base ≤ W.heap.size) :
    Yields Tryd.prog r l2 #[.agg #[.slice A n c, .int .i64 u.pos, .bool u.feed]] W
      (fun W' => ∃ O', c1.J (stepR width wrap s u).rows O' W' ∧ ∃ p' g' q', St2 c1 r l2 fB oB yB bw br width wrap .ready none p' g' q' (stepR width wrap s u).x (stepR width wrap s u).over O' W' ∧ Step (OT l2 fB oB p g q O1) (OT l2 fB oB p' g' q' O') W W')
      (fun cd W' => cd = .ret ∧ ∃ O' zs, zs <+: c1.items ∧ c1.D zs O' W' ∧ W'.heap[l2]? = some (r.at .done (some .ret)) ∧ ¬ O' l2 ∧ Step (OT l2 fB oB p g q O1) (OL l2 O') W W') := by
  have n1 : yB ≠ l2 := Ne.symm (st.own l2 T2.l).2.2.2.1
  have n2 : bw ≠ l2 := Ne.symm (st.own l2 T2.l).2.2.2.2.1
  have n3 : br ≠ l2 := Ne.symm (st.own l2 T2.l).2.2.2.2.2
  have d := st.dis
  refine yields_lit hr ?_
  have HR := Lib.hid hr
  have HJ := Lib.hid hJ
  have HST := Lib.hid st
  have HI := Lib.hid hi
  have HC := Lib.hid hcell
  have HN := Lib.hid hn
  clear hn hr hJ st hi hcell
  obtain ⟨B, hB⟩ : ∃ B, bodyOf Tryd.f50 = B := ⟨_, rfl⟩
  rw [hB]
  have HB := Lib.hid hB
  clear hB
  simp only [assignOf, Tryd.f50, Option.bind_some, rangeOf, Option.or_some, Option.or_none, Option.map_some, Option.getD_some, Option.getD_none]
  simp only [List.zip_toArray, List.zip_cons_cons, List.zip_nil_right, List.foldl_toArray', List.foldl_cons, List.foldl_nil, List.setIfInBounds_toArray, List.set_cons_succ, List.set_cons_zero]
  gi_wp2
  refine ⟨hd_alloc HST.out.lrec, ?_⟩
  generalize hW1 : W.alloc (.cells #[.slice A n c, .int .i64 u.pos, .bool u.feed] 96) = W1
  have hx1 : W1.heap[W.heap.size]? = some (.cells #[.slice A n c, .int .i64 u.pos, .bool u.feed] 96 (0, 0)) := by rw [← hW1]; exact World.alloc_heap_new _ _
  have f1 : Fr Non W W1 := by rw [← hW1]; exact (Fr.refl _ _).alloc _
  generalize hW2 : W1.putObj l2 (r.at .busy none) = W2
  have f2 : Fr (fun b => b = l2) W1 W2 := by rw [← hW2]; exact (Fr.refl _ _).putObj _ _ (fun _ => rfl)
  have f12 : Fr (fun b => b = l2) W W2 := (f1.mono (fun _ _ h => h.elim)).trans f2
  have hlt := lt_of_block HST.out.lrec
  have hx2 := f2.at hx1 (by omega)
  have hr2 : W2.heap[l2]? = some (r.at .busy none) := by rw [← hW2]; exact ho_same (f1.at HST.out.lrec id)
  have st0 := HST.out
  have st2 : St2 c1 r l2 fB oB yB bw br width wrap .busy none p g q s.x s.over O1 W2 := ⟨hr2, f12.at st0.f (Ne.symm d.lf), f12.at st0.o (Ne.symm d.lo), ⟨f12.at st0.fil.1 (Ne.symm d.lp), f12.at st0.fil.2.1 (Ne.symm d.lg), f12.at st0.fil.2.2 (Ne.symm d.lq)⟩,
    f12.at st0.y n1, f12.at st0.w n2, f12.at st0.b n3, st0.own, st0.ny, st0.nw, st0.nb, st0.ok⟩
  have ol := st0.own l2 T2.l
  have hJ2 : c1.J s.rows O1 W2 := c1.stable HJ.out f12 (fun b _ h => by rw [h]; exact ⟨ol.1, ol.2.1⟩)
  have hS2 : Step (OT l2 fB oB p g q O1) (OT l2 fB oB p g q O1) W W2 := step_own f12 (fun b _ h => by rw [h]; exact T2.l)
  have hTlt : ∀ b, OT l2 fB oB p g q O1 b → b < W.heap.size := by
    rintro b (h | rfl | rfl | rfl | rfl | rfl | rfl)
    · exact c1.lt HJ.out h
    · exact hlt
    · exact lt_of_block st0.f
    · exact lt_of_block st0.o
    · exact lt_of_block st0.fil.1
    · exact lt_of_block st0.fil.2.1
    · exact lt_of_block st0.fil.2.2
  have hu2 : UntAt W.heap.size A c u (OT l2 fB oB p g q O1) W2 := ⟨by rw [← HN.out]; exact hx2, fun h => absurd (hTlt _ h) (Nat.lt_irrefl _), by rw [← HN.out]; exact hn2, by
    rcases HC.out with h | ⟨b, h1, h2, h3⟩
    · exact .inl h
    · exact .inr ⟨b, h1, hS2.at h2 h3, h3⟩⟩
  have hlo2 : c1.lo ≤ W2.heap.size := Nat.le_trans hlo f12.size
  have hba2 : c1.base ≤ W2.heap.size := Nat.le_trans hba f12.size
  clear hW1 hW2
  have fin1 : ∀ a O1' p' g' q' w', c1.J (stepR width wrap s u).rows O1' w' → St2 c1 r l2 fB oB yB bw br width wrap .busy none p' g' q' (stepR width wrap s u).x (stepR width wrap s u).over O1' w' → Step (OT l2 fB oB p g q O1) (OT l2 fB oB p' g' q' O1') W2 w' →
      rPost r l2 (fun W' => ∃ O', c1.J (stepR width wrap s u).rows O' W' ∧ ∃ p' g' q', St2 c1 r l2 fB oB yB bw br width wrap .ready none p' g' q' (stepR width wrap s u).x (stepR width wrap s u).over O' W' ∧ Step (OT l2 fB oB p g q O1) (OT l2 fB oB p' g' q' O') W W')
        (fun cd W' => cd = .ret ∧ ∃ O' zs, zs <+: c1.items ∧ c1.D zs O' W' ∧ W'.heap[l2]? = some (r.at .done (some .ret)) ∧ ¬ O' l2 ∧ Step (OT l2 fB oB p g q O1) (OL l2 O') W W') .normal a w' := by
    intro a O1' p' g' q' w' hJ' st' hS'
    have f5 : Fr (fun b => b = l2) w' (w'.putObj l2 (r.at .ready none)) := (Fr.refl _ _).putObj _ _ (fun _ => rfl)
    have d' := st'.dis
    have ol' := st'.own l2 T2.l
    refine ⟨st'.lrec, O1', c1.stable hJ' f5 (fun b _ h => by rw [h]; exact ⟨ol'.1, ol'.2.1⟩), p', g', q', ⟨ho_same st'.lrec, f5.at st'.f (Ne.symm d'.lf), f5.at st'.o (Ne.symm d'.lo), ⟨f5.at st'.fil.1 (Ne.symm d'.lp), f5.at st'.fil.2.1 (Ne.symm d'.lg), f5.at st'.fil.2.2 (Ne.symm d'.lq)⟩,
      f5.at st'.y n1, f5.at st'.w n2, f5.at st'.b n3, st'.own, st'.ny, st'.nw, st'.nb, st'.ok⟩, (hS2.trans hS').trans (step_own f5 (fun b _ h => by rw [h]; exact T2.l))⟩
  have fin2 : ∀ a O1' w', c1.D (stepR width wrap s u).rows O1' w' → w'.heap[l2]? = some (r.at .busy none) → ¬ O1' l2 → Step (OT l2 fB oB p g q O1) (OL l2 O1') W2 w' →
      rPost r l2 (fun W' => ∃ O', c1.J (stepR width wrap s u).rows O' W' ∧ ∃ p' g' q', St2 c1 r l2 fB oB yB bw br width wrap .ready none p' g' q' (stepR width wrap s u).x (stepR width wrap s u).over O' W' ∧ Step (OT l2 fB oB p g q O1) (OT l2 fB oB p' g' q' O') W W')
        (fun cd W' => cd = .ret ∧ ∃ O' zs, zs <+: c1.items ∧ c1.D zs O' W' ∧ W'.heap[l2]? = some (r.at .done (some .ret)) ∧ ¬ O' l2 ∧ Step (OT l2 fB oB p g q O1) (OL l2 O') W W') .ret a w' := by
    intro a O1' w' hD hl hn' hS'
    have f5 : Fr (fun b => b = l2) w' (w'.putObj l2 (r.at .done (some .ret))) := (Fr.refl _ _).putObj _ _ (fun _ => rfl)
    exact ⟨hl, rfl, O1', _, HI.out, c1.stableD hD f5 (fun b _ h => by rw [h]; exact ⟨hn', ol.2.1⟩), ho_same hl, hn', (hS2.trans hS').fr f5 (fun b _ h => by rw [h]; exact .inl (.inr T2.l))⟩
  rw [← HB.out, B50_eq]
  refine wpIn_block (wpIn_block (wpIn_seq ?_))
  refine r6 l2 fB oB yB bw br W.heap.size W2 A n c u.pos u.feed _ hx2 ?_
  intro v19 v20
  cases hfd : u.feed with
  | true =>
    refine wpIn_cond_true rfl ?_
    have e : stepR width wrap s u = ⟨newFil width, false, s.rows ++ [rowOf (if s.over then s.x else s.x.end_ u.pos)]⟩ := by simp [stepR, hfd]
    have hi := HI.out
    rw [e] at hi
    refine feed2 c1 r l2 fB oB yB bw br width wrap p g q W.heap.size s O1 W2 A n c u.pos u.feed _ st2 hJ2 hx2 hw0 hw hi hlo2 hba2 ?_ ?_
    · intro a O1' p' g' q' w' hJ' st' hS'
      exact fin1 a O1' p' g' q' w' (by rw [e]; exact hJ') (by rw [e]; exact st') hS'
    · intro a O1' w' hD hl hn' hS'
      exact fin2 a O1' w' (by rw [e]; exact hD) hl hn' hS'
  | false =>
    refine wpIn_cond_false rfl ?_
    exact else2 c1 r l2 fB oB yB bw br width wrap p g q W.heap.size s O1 W2 A c u _ st2 hJ2 hu2 hfd hw0 hw HI.out hlo2 hba2 fin1 fin2
end Go.Proofs.YtppjgofjjcdcdaaDoor

/- layout.rows: the last row. -/
namespace Go.Proofs.YtppjgofjjcdcdaaDoor
open PLayoutRows
open Go.RowKit
attribute [local go_sem] Oper.semAt_some
set_option maxRecDepth 100000
set_option maxHeartbeats 2000000 in
theorem emit20 {u0 u1 u2 u3 u4 u9 u10 u11 u12 u13 u14 u15 u16 u17 u18 u19 u20 u21 u22 u23 u24 u25 u26 u27 u28 u29 u30 u31 u32 u33 u34 u35 u36 u37 u38 u39 u40 u41 u42 u43 u44 u45 u46 u47 u48 u49 u50 u51 u52 u53 u54 u55 u56 u57 u58 u59 u60 u61 u62 u63 u64 u65 u66 u67 u68 u69 u70 u71 u72 u73 : Value} (c1 : ConsR Tryd.prog) (fB oB yB bto p g q : Nat) (x : Fil) (E : List Row) (O1 : Nat → Prop) (w : World) (Q : Exit → Act → World → Prop) (DF : List Deferred)
    (hJ : c1.J E O1 w) (hfil : FilAt w p g q x) (hf : w.heap[fB]? = some (boxP p)) (hyy : w.heap[yB]? = some (boxY c1.l 89)) (hi : E ++ [rowOf x] <+: c1.items) (ng : ¬ O1 g) (nq : ¬ O1 q) (bg : c1.base ≤ g) (bq : c1.base ≤ q)
    (hQ : ∀ (T : Array Value) (more : Bool) (O1' : Nat → Prop) (w' : World), StepG ⟨g, q, rowOf x⟩ O1 O1' w w' → (more = true → c1.J (E ++ [rowOf x]) O1' w') → (more = false → c1.D (E ++ [rowOf x]) O1' w') → Q .normal { tmps := T, defers := DF } w') :
    (sndOf (sndOf (sndOf (sndOf (Tryd.f50.body.getD .skip))))).wpIn Fence.wide 0 Tryd.prog Q { tmps := #[u0, u1, u2, u3, u4, .pointer (some ⟨bto, 0, none⟩), .pointer (some ⟨yB, 0, none⟩), .pointer (some ⟨fB, 0, none⟩), .pointer (some ⟨oB, 0, none⟩), u9, u10, u11, u12, u13, u14, u15, u16, u17, u18, u19, u20, u21, u22, u23, u24, u25, u26, u27, u28, u29, u30, u31, u32, u33, u34, u35, u36, u37, u38, u39, u40, u41, u42, u43, u44, u45, u46, u47, u48, u49, u50, u51, u52, u53, u54, u55, u56, u57, u58, u59, u60, u61, u62, u63, u64, u65, u66, u67, u68, u69, u70, u71, u72, u73], defers := DF } w := by
  simp only [Tryd.f50, Option.getD_some, sndOf]
  have hmx : Tryd.prog.follows .mixedOrders = true := by kernel_rfl
  have y1 : w.cell? ⟨yB, 0, none⟩ = some (.func (.yield c1.l) #[] #[]) := cell_row hyy rfl
  have y2 : w.cell? ⟨fB, 0, none⟩ = some (.pointer (some ⟨p, 0, none⟩)) := cell_row hf rfl
  have p0 : w.cell? ⟨p, 0, none⟩ = some (.slice (some ⟨g, 0, none⟩) x.cells.length x.cells.length) := cell_row hfil.1 rfl
  have p1 : w.cell? ⟨p, 1, none⟩ = some (.slice (some ⟨q, 0, none⟩) x.pos.length x.pos.length) := cell_row hfil.1 rfl
  have p2 : w.cell? ⟨p, 2, none⟩ = some (.int .i64 x.fr) := cell_row hfil.1 rfl
  have p3 : w.cell? ⟨p, 3, none⟩ = some (.int .i64 x.to_) := cell_row hfil.1 rfl
  have p4 : w.cell? ⟨p, 4, none⟩ = some (.bool x.cont) := cell_row hfil.1 rfl
  have fd : Fr Non w w.drew := (Fr.refl _ _).drew
  obtain ⟨tm, hy, hR⟩ := c1.yield (d := ⟨g, q, rowOf x⟩) hi (c1.stable hJ fd (fun _ _ h => h.elim)) (hd_drew hfil.2.1) (hd_drew hfil.2.2) ng nq bg bq
  simp only [rowV, rowOf] at hy
  have HR := Lib.hid hR
  have HQ := Lib.hid hQ
  clear hJ hfil hf hyy hi hR hQ ng nq bg bq fd
  refine wpIn_mono (Q := fun e a w' => match e with
    | .normal => ∃ (T : Array Value) (more : Bool) (O1' : Nat → Prop), a = { tmps := T, defers := DF } ∧ StepG ⟨g, q, rowOf x⟩ O1 O1' w.drew w' ∧ (more = true → c1.J (E ++ [rowOf x]) O1' w') ∧ (more = false → c1.D (E ++ [rowOf x]) O1' w')
    | _ => False) ?_ ?_
  · gi_region_with_o (refine ⟨rfl, HR.out.mono ?_⟩; rintro e W3 ⟨more, rfl, hmore⟩)
    all_goals
      obtain ⟨O1', hS, hj, hd⟩ := hmore
      exact ⟨_, more, O1', rfl, hS, hj, hd⟩
  · intro e a w' h
    cases e with
    | normal =>
      obtain ⟨T, more, O1', rfl, hS, hj, hd⟩ := h
      exact HQ.out T more O1' w' (StepG.undrew hS) hj hd
    | _ => exact h.elim
set_option maxHeartbeats 2000000 in
theorem end18 {u0 u1 u2 u3 u4 u9 u10 u11 u12 u13 u14 u15 u16 u17 u18 u19 u20 u21 u22 u23 u24 u25 u26 u27 u28 u29 u30 u31 u32 u33 u34 u35 u36 u37 u38 u39 u40 u41 u42 u43 u44 u45 u46 u47 u48 u49 u50 u51 u52 u53 u54 u55 u56 u57 u58 u59 u60 u61 u62 u63 u64 u65 u66 u67 u68 u69 u70 u71 u72 u73 : Value} (fB oB yB bto p g q width : Nat) (x : Fil) (over : Bool) (to_ : Int) (w : World) (Q : Exit → Act → World → Prop) (DF : List Deferred)
    (hfil : FilAt w p g q x) (hf : w.heap[fB]? = some (boxP p)) (ho : w.heap[oB]? = some (boxB over)) (hto : w.heap[bto]? = some (boxI to_)) (hok : x.Ok width) (hw : width ≤ 1000000) (d1 : p ≠ q) (d2 : g ≠ p) (d3 : g ≠ q)
    (hQ : ∀ (v63 v64 v65 v66 v67 : Value) (w' : World), FilAt w' p g q (if over then x else x.end_ to_) → Fr (fun b => b = p ∨ b = g ∨ b = q) w w' → Q .normal { tmps := #[u0, u1, u2, u3, u4, .pointer (some ⟨bto, 0, none⟩), .pointer (some ⟨yB, 0, none⟩), .pointer (some ⟨fB, 0, none⟩), .pointer (some ⟨oB, 0, none⟩), u9, u10, u11, u12, u13, u14, u15, u16, u17, u18, u19, u20, u21, u22, u23, u24, u25, u26, u27, u28, u29, u30, u31, u32, u33, u34, u35, u36, u37, u38, u39, u40, u41, u42, u43, u44, u45, u46, u47, u48, u49, u50, u51, u52, u53, u54, u55, u56, u57, u58, u59, u60, u61, u62, v63, v64, v65, v66, v67, u68, u69, u70, u71, u72, u73], defers := DF } w') :
    (fstOf (sndOf (sndOf (sndOf (Tryd.f50.body.getD .skip))))).wpIn Fence.wide 0 Tryd.prog Q { tmps := #[u0, u1, u2, u3, u4, .pointer (some ⟨bto, 0, none⟩), .pointer (some ⟨yB, 0, none⟩), .pointer (some ⟨fB, 0, none⟩), .pointer (some ⟨oB, 0, none⟩), u9, u10, u11, u12, u13, u14, u15, u16, u17, u18, u19, u20, u21, u22, u23, u24, u25, u26, u27, u28, u29, u30, u31, u32, u33, u34, u35, u36, u37, u38, u39, u40, u41, u42, u43, u44, u45, u46, u47, u48, u49, u50, u51, u52, u53, u54, u55, u56, u57, u58, u59, u60, u61, u62, u63, u64, u65, u66, u67, u68, u69, u70, u71, u72, u73], defers := DF } w := by
  simp only [Tryd.f50, Option.getD_some, sndOf, fstOf]
  have y1 : w.cell? ⟨oB, 0, none⟩ = some (.bool over) := cell_row ho rfl
  have y2 : w.cell? ⟨fB, 0, none⟩ = some (.pointer (some ⟨p, 0, none⟩)) := cell_row hf rfl
  have y3 : w.cell? ⟨bto, 0, none⟩ = some (.int .i64 to_) := cell_row hto rfl
  have hE := filEnd_any p g q x to_ w hfil (by rw [hok.p]; exact hok.n) (by rw [hok.p]; exact hw) d1 d2 d3
  have HE := Lib.hid (show CallsIn Fence.wide 0 Tryd.prog _ _ _ _ from callsIn_wide.2 hE)
  have HQ := Lib.hid hQ
  have HF := Lib.hid hfil
  clear hQ hE hfil hf ho hto
  cases over with
  | true =>
    gi_wp2
    exact HQ.out _ _ _ _ _ w HF.out (Fr.refl _ _)
  | false =>
    gi_wp2_with fail
    refine ⟨trivial, rfl, HE.out.mono ?_⟩
    rintro e w1 ⟨rfl, hf, hfr⟩
    have F := hfr.mono (S' := fun b => b = p ∨ b = g ∨ b = q) (fun b _ h => h.elim (fun h => .inl h) (fun h => .inr (.inr h)))
    have HF' := Lib.hid F
    have HFI := Lib.hid hf
    clear hf hfr F
    gi_wp2
    exact HQ.out _ _ _ _ _ w1 HFI.out HF'.out
end Go.Proofs.YtppjgofjjcdcdaaDoor
