/- layout.units: the iterator hands its units to a consumer. -/
import Derived.Test.YtppjgofjjcdcdaaDoorJA
import Derived.Test.YtppjgofjjcdcdaaDoorJB
import Derived.TacticsInMore
import Derived.OwnWalkIn
import Derived.Maps.OwnIn
import Derived.Great.BuildSlice
import Derived.BigRegionIn
set_option linter.unusedVariables false
set_option linter.unusedSimpArgs false
/- A round of layout.Rows's own loop: a row is collected. -/
namespace Go.Proofs.YtppjgofjjcdcdaaDoor
open PLayoutRows
open Go.RowKit
attribute [local go_sem] Oper.semAt_some
abbrev Row := S39
/-- A row with the blocks of its cells and positions. -/
structure RowD where
  g : Nat
  q : Nat
  row : Row
def rowV (d : RowD) : List Value := [.slice (some ⟨d.g, 0, none⟩) d.row.f0.length d.row.f0.length, .slice (some ⟨d.q, 0, none⟩) d.row.f1.length d.row.f1.length, .int .i64 d.row.f2, .int .i64 d.row.f3, .bool d.row.f4]
def rowsV (ds : List RowD) : List Value := ds.flatMap rowV
theorem rowsV_len (ds : List RowD) : (rowsV ds).length = ds.length * 5 := by
  induction ds with
  | nil => rfl
  | cons d ds ih => simp only [rowsV, List.flatMap_cons, List.length_append, List.length_cons] at *; rw [ih]; show 5 + _ = _; omega
structure OutAt (W : World) (base : Nat) (v : Value) (ds : List RowD) : Prop where
  own : W.ownsRow base 39 5 v ds.length (rowsV ds)
  at_ : ∀ d ∈ ds, base ≤ d.g ∧ base ≤ d.q ∧ W.heap[d.g]? = some (cellB d.row.f0) ∧ W.heap[d.q]? = some (posB d.row.f1)
def withTo (d : RowD) (t : Int) : RowD := { d with row := { d.row with f3 := t } }
def setLast : List RowD → Int → List RowD
  | [], _ => []
  | [d], t => [withTo d t]
  | d :: ds, t => d :: setLast ds t
def boxI (v : Int) : Obj := .cells #[.int .i64 v] 3 (0, 0)
theorem setLast_len : ∀ (ds : List RowD) (t : Int), (setLast ds t).length = ds.length
  | [], _ => rfl
  | [_], _ => rfl
  | _ :: e :: ds, t => by simp only [setLast, List.length_cons]; rw [setLast_len (e :: ds) t]; rfl
theorem setLast_V : ∀ (ds : List RowD) (t : Int), ds ≠ [] → rowsV (setLast ds t) = (rowsV ds).set ((ds.length - 1) * 5 + 3) (.int .i64 t)
  | [], _, h => absurd rfl h
  | [d], t, _ => by simp [setLast, rowsV, rowV, withTo]
  | d :: e :: ds, t, _ => by
    have ih := setLast_V (e :: ds) t (by simp)
    show rowV d ++ rowsV (setLast (e :: ds) t) = (rowV d ++ rowsV (e :: ds)).set _ _
    have hl : (rowV d).length = 5 := rfl
    rw [ih, List.set_append_right _ _ (by rw [hl, List.length_cons, List.length_cons]; omega), hl]
    congr 2
    simp only [List.length_cons]
    omega
theorem mem_setLast : ∀ (ds : List RowD) (t : Int) (d : RowD), d ∈ setLast ds t → ∃ e ∈ ds, d.g = e.g ∧ d.q = e.q ∧ d.row.f0 = e.row.f0 ∧ d.row.f1 = e.row.f1
  | [], _, _, h => by simp [setLast] at h
  | [e], t, d, h => by
    simp only [setLast, List.mem_singleton] at h
    subst h
    exact ⟨e, by simp, rfl, rfl, rfl, rfl⟩
  | e :: f :: ds, t, d, h => by
    simp only [setLast, List.mem_cons] at h
    rcases h with rfl | h
    · exact ⟨_, by simp, rfl, rfl, rfl, rfl⟩
    · obtain ⟨x, hx, hh⟩ := mem_setLast (f :: ds) t d (by simpa [setLast] using h)
      exact ⟨x, List.mem_cons_of_mem _ hx, hh⟩
/-- Blocks of unlike content are two. -/
theorem ne_obj {W : World} {a b : Nat} {o o' : Obj} (h : W.heap[a]? = some o) (h' : W.heap[b]? = some o') (hn : o ≠ o') : a ≠ b := by
  rintro rfl
  rw [h] at h'
  exact hn (Option.some.inj h')
theorem ne_type {W : World} {a b : Nat} {c c' : Array Value} {t t' : TypeId} {f f' : Nat × Nat} (h : W.heap[a]? = some (.cells c t f)) (h' : W.heap[b]? = some (.cells c' t' f')) (hn : t ≠ t') : a ≠ b :=
  ne_obj h h' (by intro e; injection e with _ e _; exact hn e)
/-- The blocks that a round of the collecting loop may change. -/
def Own1 (bOut l1 : Nat) (v : Value) (b : Nat) : Prop := b = bOut ∨ b = l1 ∨ v.ownBlock = some b
theorem ownsRow_fr {S : Nat → Prop} {W W' : World} (f : Fr S W W') {base : Nat} {e : TypeId} {size : Nat} {v : Value} {n : Nat} {xs : List Value} (h : W.ownsRow base e size v n xs) (hv : ∀ b, v.ownBlock = some b → ¬ S b) : W'.ownsRow base e size v n xs := by
  refine ⟨h.1, ?_⟩
  rcases h.2 with hn | ⟨g, cap, cur, rfl, hb, hg, rest⟩
  · exact .inl hn
  · exact .inr ⟨g, cap, cur, rfl, hb, f.at hg (hv g rfl), rest⟩
theorem OutAt.own_block {W : World} {base : Nat} {v : Value} {ds : List RowD} (h : OutAt W base v ds) {b : Nat} (hb : v.ownBlock = some b) : ∃ cur, W.heap[b]? = some (.cells cur 39 (0, 0)) := by
  rcases h.own.2 with ⟨rfl, _⟩ | ⟨g, cap, cur, rfl, _, hg, _⟩
  · cases hb
  · cases hb
    exact ⟨cur, hg⟩
theorem OutAt.own_type {W : World} {base : Nat} {v : Value} {ds : List RowD} (h : OutAt W base v ds) {b : Nat} (hb : v.ownBlock = some b) {r : Rec} {st : LoopState} {pe : Option Code} (hr : W.heap[b]? = some (r.at st pe)) : False := by
  obtain ⟨cur, hc⟩ := h.own_block hb
  rw [hc] at hr
  cases hr
theorem OutAt.kept {S : Nat → Prop} {W W' : World} {base : Nat} {v : Value} {ds : List RowD} (h : OutAt W base v ds) (f : Fr S W W') (hv : ∀ b, v.ownBlock = some b → ¬ S b) (hd : ∀ d ∈ ds, ¬ S d.g ∧ ¬ S d.q) : OutAt W' base v ds :=
  ⟨ownsRow_fr f h.own hv, fun d hm => by
    obtain ⟨h1, h2, h3, h4⟩ := h.at_ d hm
    exact ⟨h1, h2, f.at h3 (hd d hm).1, f.at h4 (hd d hm).2⟩⟩
theorem news_alloc (w : World) (l : List Value) (t : TypeId) (b : Nat) (hb : b = w.heap.size) : ∀ (j : Nat) (u : Value), l[j]? = some u → (w.alloc (.cells l.toArray t)).cell? ((⟨b, 0, none⟩ : Addr).add j) = some u := by
  subst hb
  intro j u hu
  have hadd : (⟨w.heap.size, 0, none⟩ : Addr).add j = ⟨w.heap.size, j, none⟩ := by unfold Addr.add; split <;> simp_all
  rw [hadd]
  exact cell_row (World.alloc_heap_new w _) (by simpa using hu)
theorem wpListIn_buildAt {F : Fence} {nF : Nat} {P : Program} {ops : Array Oper} {rest : List Oper} {o : Oper} {a : Act} {w : World} {Q : Exit → Act → World → Prop} (hg : o.guard = none) (t e : TypeId) (len : Nat) (parts : Array (Nat × Operand)) (ho : o.op = .buildSlice t len parts)
    (N : Nat) (hN : w.heap.size = N) (cells : Array Value) (ie : TypeInfo) (z : Value) (size : Nat)
    (hu : P.underlying t = some (.slice e)) (hie : P.info? e = some ie) (hz : ie.zero = some z) (hsize : ie.size = size) (hsmall : ¬ len * size > 2 ^ 24) (hpos : ¬ len * size = 0)
    (hf : Instr.fill (fun i => some (i * size, size)) ((Array.range (len * size)).map (z.cells[· % z.cells.size]!)) (parts.map fun (i, x) => (i, a.eval x)).toList = some cells)
    (h : wpListIn F nF P ops Q rest (a.put o.dst (.slice (some ⟨N, 0, none⟩) len len)) (w.alloc (.cells cells e))) : wpListIn F nF P ops Q (o :: rest) a w := by
  subst hN hsize
  refine wpListIn_plain hg fun K hK => ?_
  unfold Oper.wpIn
  refine ⟨by simp [Oper.about, ho], ?_⟩
  rw [Oper.semAt_plain F _ _ (by rw [ho]; intro c hc; cases hc)]
  unfold execOp
  simp only [ho, Sem.run_bind, run_buildSlice w t e len _ cells ie z hu hie hz hsmall hpos hf, Result.andThen_ok]
  exact hK _ _ h
def emitD (ds : List RowD) (d : RowD) (to_ : Int) : List RowD := setLast ds d.row.f2 ++ [withTo d to_]
theorem rowsV_emitD (ds : List RowD) (d : RowD) (t : Int) : rowsV (emitD ds d t) = rowsV (setLast ds d.row.f2) ++ rowV (withTo d t) := by simp [emitD, rowsV]
theorem mem_emitD {ds : List RowD} {d : RowD} {to_ : Int} {e : RowD} (h : e ∈ emitD ds d to_) : ∃ x, (x ∈ ds ∨ x = d) ∧ e.g = x.g ∧ e.q = x.q ∧ e.row.f0 = x.row.f0 ∧ e.row.f1 = x.row.f1 := by
  rcases List.mem_append.1 h with h | h
  · obtain ⟨x, hx, hh⟩ := mem_setLast _ _ _ h
    exact ⟨x, .inl hx, hh⟩
  · rw [List.mem_singleton] at h
    subst h
    exact ⟨d, .inr rfl, rfl, rfl, rfl, rfl⟩
theorem round1_fin {l1 bOut base : Nat} {d : RowD} {v v' : Value} {ds : List RowD} {to_ : Int} {most : Nat} {W w1 : World} {r : Rec} {a : Act} {S : Code → World → Prop}
    (h1 : W.heap[l1]? = some (r.at .ready none)) (hout : W.heap[bOut]? = some (.cells #[v] 27 (0, 0))) (ho : OutAt W base v ds)
    (hg : W.heap[d.g]? = some (cellB d.row.f0)) (hq : W.heap[d.q]? = some (posB d.row.f1)) (hbg : base ≤ d.g) (hbq : base ≤ d.q)
    (f : Fr (fun b => b = l1 ∨ v.ownBlock = some b) W w1) (hl : w1.heap[l1]? = some (r.at .busy none)) (hb : w1.heap[bOut]? = some (.cells #[v] 27 (0, 0)))
    (hn : ds.length < most) (hown : w1.ownsRow base 39 5 v' (ds.length + 1) (rowsV (emitD ds d to_)))
    (hat : v'.ownBlock = v.ownBlock ∨ v'.ownBlock = some W.heap.size ∨ ∃ b, v'.ownBlock = some b ∧ W.heap.size ≤ b) :
    rPost r l1 (fun W' => ds.length < most ∧ W'.heap[l1]? = some (r.at .ready none) ∧ ∃ v', W'.heap[bOut]? = some (.cells #[v'] 27 (0, 0)) ∧ OutAt W' base v' (emitD ds d to_) ∧ Fr (Own1 bOut l1 v) W W' ∧ (v'.ownBlock = v.ownBlock ∨ v'.ownBlock = some W.heap.size ∨ ∃ b, v'.ownBlock = some b ∧ W.heap.size ≤ b)) S
      .normal a (w1.setCell ⟨bOut, 0, none⟩ v') := by
  have n1 : bOut ≠ l1 := ne_obj hout h1 (by intro e; cases e)
  have hl' : (w1.setCell ⟨bOut, 0, none⟩ v').heap[l1]? = some (r.at .busy none) := hs_other hl (Ne.symm n1)
  have F : Fr (Own1 bOut l1 v) W ((w1.setCell ⟨bOut, 0, none⟩ v').putObj l1 (r.at .ready none)) :=
    ((f.mono (fun b _ hb => hb.elim (fun h => .inr (.inl h)) (fun h => .inr (.inr h)))).setCell _ _ (fun _ => .inl rfl)).putObj _ _ (fun _ => .inr (.inl rfl))
  have keep : ∀ (b : Nat) (cs : Array Value) (t : TypeId), W.heap[b]? = some (.cells cs t (0, 0)) → t ≠ 27 → t ≠ 39 → ¬ Own1 bOut l1 v b := by
    intro b cs t hc' ht ht'
    rintro (rfl | rfl | h)
    · exact ne_type hout hc' (Ne.symm ht) rfl
    · exact ne_obj hc' h1 (by intro e; cases e) rfl
    · obtain ⟨cur, hc⟩ := ho.own_block h
      exact ne_type hc hc' (Ne.symm ht') rfl
  refine ⟨hl', hn, ho_same hl', v', ho_other (hs_same hb) n1, ⟨?_, ?_⟩, F, hat⟩
  · have hlen : (emitD ds d to_).length = ds.length + 1 := by simp [emitD, setLast_len]
    rw [hlen]
    refine ownsRow_fr (S := fun b => b = l1 ∨ b = bOut) (((Fr.refl _ w1).setCell _ _ (fun _ => .inr rfl)).putObj _ _ (fun _ => .inl rfl)) hown ?_
    intro b hb'
    rcases hown.2 with ⟨_, h0⟩ | ⟨g, cap, cur, rfl, _, hg, _⟩
    · omega
    · cases hb'
      rintro (rfl | rfl)
      · rw [hl] at hg; cases hg
      · exact ne_type hb hg (by decide) rfl
  · intro e he
    obtain ⟨x, hx, e1, e2, e3, e4⟩ := mem_emitD he
    rw [e1, e2, e3, e4]
    rcases hx with hx | rfl
    · obtain ⟨a1, a2, a3, a4⟩ := ho.at_ x hx
      exact ⟨a1, a2, F.at a3 (keep _ _ _ a3 (by decide) (by decide)), F.at a4 (keep _ _ _ a4 (by decide) (by decide))⟩
    · exact ⟨hbg, hbq, F.at hg (keep _ _ _ hg (by decide) (by decide)), F.at hq (keep _ _ _ hq (by decide) (by decide))⟩
theorem round1_out {l1 bOut base : Nat} {v : Value} {ds : List RowD} {fr : Int} {most : Nat} {W w1 : World} {r : Rec} {a : Act} {G : World → Prop}
    (h1 : W.heap[l1]? = some (r.at .ready none)) (hout : W.heap[bOut]? = some (.cells #[v] 27 (0, 0))) (ho : OutAt W base v ds)
    (f : Fr (fun b => b = l1 ∨ v.ownBlock = some b) W w1) (hl : w1.heap[l1]? = some (r.at .busy none)) (hb : w1.heap[bOut]? = some (.cells #[v] 27 (0, 0)))
    (hn : ds.length = most) (hown : w1.ownsRow base 39 5 v ds.length (rowsV (setLast ds fr))) :
    rPost r l1 G (fun c W' => c = .exit 0 ∧ ds.length = most ∧ W'.heap[l1]? = some (r.at .done (some c)) ∧ W'.heap[bOut]? = some (.cells #[v] 27 (0, 0)) ∧ OutAt W' base v (setLast ds fr) ∧ Fr (Own1 bOut l1 v) W W')
      (.exit 0) a w1 := by
  have n1 : bOut ≠ l1 := ne_obj hout h1 (by intro e; cases e)
  have F : Fr (Own1 bOut l1 v) W (w1.putObj l1 (r.at .done (some (.exit 0)))) :=
    (f.mono (fun b _ hb => hb.elim (fun h => .inr (.inl h)) (fun h => .inr (.inr h)))).putObj _ _ (fun _ => .inr (.inl rfl))
  have keep : ∀ (b : Nat) (cs : Array Value) (t : TypeId), W.heap[b]? = some (.cells cs t (0, 0)) → t ≠ 27 → t ≠ 39 → ¬ Own1 bOut l1 v b := by
    intro b cs t hc' ht ht'
    rintro (rfl | rfl | h)
    · exact ne_type hout hc' (Ne.symm ht) rfl
    · exact ne_obj hc' h1 (by intro e; cases e) rfl
    · obtain ⟨cur, hc⟩ := ho.own_block h
      exact ne_type hc hc' (Ne.symm ht') rfl
  refine ⟨hl, rfl, hn, ho_same hl, ho_other hb n1, ⟨?_, ?_⟩, F⟩
  · rw [setLast_len]
    refine ownsRow_fr (S := fun b => b = l1) ((Fr.refl _ w1).putObj _ _ (fun _ => rfl)) hown ?_
    intro b hb' e
    subst e
    rcases hown.2 with ⟨rfl, h0⟩ | ⟨g, cap, cur, rfl, _, hg, _⟩
    · cases hb'
    · cases hb'
      rw [hl] at hg; cases hg
  · intro e he
    obtain ⟨x, hx, e1, e2, e3, e4⟩ := mem_setLast _ _ _ he
    rw [e1, e2, e3, e4]
    obtain ⟨a1, a2, a3, a4⟩ := ho.at_ x hx
    exact ⟨a1, a2, F.at a3 (keep _ _ _ a3 (by decide) (by decide)), F.at a4 (keep _ _ _ a4 (by decide) (by decide))⟩
set_option maxRecDepth 100000
set_option maxHeartbeats 1000000 in
theorem round1 {u0 u1 u2 u3 u4 u5 u6 u7 u8 u10 u11 u12 u14 u15 u16 u18 u19 u20 u21 u22 u23 u24 u25 u26 u27 u28 u29 u30 u31 u32 u33 u34 u35 u36 u37 u38 u39 u40 u41 u42 u43 u44 u45 u46 u47 u48 u49 u50 u51 u52 u53 u54 u55 u56 u57 u58 u59 u60 u61 u62 u63 u64 u65 u66 u67 u68 u69 u70 u71 u72 u73 u74 u75 u76 : Value} (fn l1 D bTo bMost bOut base : Nat) (d : RowD) (v : Value) (ds : List RowD) (to_ : Int) (most : Nat) (W : World) (r : Rec)
    (hr : Rec.mk fn #[u0, u1, u2, u3, u4, u5, u6, u7, u8, .pointer (some ⟨bTo, 0, none⟩), u10, u11, u12, .pointer (some ⟨bMost, 0, none⟩), u14, u15, u16, .pointer (some ⟨bOut, 0, none⟩), u18, u19, u20, u21, u22, u23, u24, u25, u26, u27, u28, u29, u30, u31, u32, u33, u34, u35, u36, u37, u38, u39, u40, u41, u42, u43, u44, u45, u46, u47, u48, u49, u50, u51, u52, u53, u54, u55, u56, u57, u58, u59, u60, u61, u62, u63, u64, u65, u66, u67, u68, u69, u70, u71, u72, u73, u74, u75, u76] #[55] (assignOf Tryd.f12) (bodyOf Tryd.f12) D = r)
    (h1 : W.heap[l1]? = some (r.at .ready none))
    (hto : W.heap[bTo]? = some (boxI to_)) (hmost : W.heap[bMost]? = some (boxI most)) (hout : W.heap[bOut]? = some (.cells #[v] 27 (0, 0))) (ho : OutAt W base v ds)
    (hg : W.heap[d.g]? = some (cellB d.row.f0)) (hq : W.heap[d.q]? = some (posB d.row.f1)) (hbg : base ≤ d.g) (hbq : base ≤ d.q) (hb : base ≤ W.heap.size) (hm : most ≤ 10000) (hds : ds.length ≤ most) :
    Yields Tryd.prog r l1 #[.agg (rowV d).toArray] W
      (fun W' => ds.length < most ∧ ∃ v', W'.heap[l1]? = some (r.at .ready none) ∧ W'.heap[bOut]? = some (.cells #[v'] 27 (0, 0)) ∧ OutAt W' base v' (emitD ds d to_) ∧ Fr (Own1 bOut l1 v) W W' ∧ (v'.ownBlock = v.ownBlock ∨ v'.ownBlock = some W.heap.size ∨ ∃ b, v'.ownBlock = some b ∧ W.heap.size ≤ b))
      (fun c W' => c = .exit 0 ∧ ds.length = most ∧ W'.heap[l1]? = some (r.at .done (some c)) ∧ W'.heap[bOut]? = some (.cells #[v] 27 (0, 0)) ∧ OutAt W' base v (setLast ds d.row.f2) ∧ Fr (Own1 bOut l1 v) W W') := by
  have n1 : bOut ≠ l1 := ne_obj hout h1 (by intro e; cases e)
  have n2 : bTo ≠ l1 := ne_obj hto h1 (by intro e; cases e)
  have n3 : bMost ≠ l1 := ne_obj hmost h1 (by intro e; cases e)
  refine yields_lit hr ?_
  simp only [assignOf, bodyOf, Tryd.f12, Option.bind_some, rangeOf, Option.or_none, Option.or_some, Option.map_some, Option.getD_some, Option.getD_none, rowV]
  have HR := Lib.hid hr
  clear hr
  simp only [List.zip_toArray, List.zip_cons_cons, List.zip_nil_right, List.foldl_toArray', List.foldl_cons, List.foldl_nil, List.setIfInBounds_toArray, List.set_cons_succ, List.set_cons_zero]
  have H1 := Lib.hid h1
  have HTO := Lib.hid hto
  have HMO := Lib.hid hmost
  have HOUT := Lib.hid hout
  have HO := Lib.hid ho
  have HG := Lib.hid hg
  have HQ := Lib.hid hq
  have N1 := Lib.hid n1
  have N2 := Lib.hid n2
  have N3 := Lib.hid n3
  clear h1 hto hmost hout ho hg hq n1 n2 n3
  gi_wp2
  refine ⟨hd_alloc H1.out, ?_⟩
  generalize hW1 : (W.alloc (.cells #[Value.slice (some ⟨d.g, 0, none⟩) d.row.f0.length d.row.f0.length, Value.slice (some ⟨d.q, 0, none⟩) d.row.f1.length d.row.f1.length, .int .i64 d.row.f2, .int .i64 d.row.f3, .bool d.row.f4] 39)).putObj l1 (r.at .busy none) = W1
  have nl : l1 < W.heap.size := lt_of_block H1.out
  have KW : W1.heap.size = W.heap.size + 1 := by rw [← hW1]; simp
  have ob : ∀ {b : Nat} {o : Obj}, W.heap[b]? = some o → b ≠ l1 → W1.heap[b]? = some o := by
    intro b o h hn
    rw [← hW1]; exact ho_other (hd_alloc h) hn
  have bB : W1.heap[W.heap.size]? = some (.cells #[Value.slice (some ⟨d.g, 0, none⟩) d.row.f0.length d.row.f0.length, Value.slice (some ⟨d.q, 0, none⟩) d.row.f1.length d.row.f1.length, .int .i64 d.row.f2, .int .i64 d.row.f3, .bool d.row.f4] 39 (0, 0)) := by
    rw [← hW1]; exact ho_other (World.alloc_heap_new W _) (by omega)
  have b1 : W1.heap[bTo]? = some (boxI to_) := ob HTO.out N2.out
  have b2 : W1.heap[bMost]? = some (boxI most) := ob HMO.out N3.out
  have b3 : W1.heap[bOut]? = some (.cells #[v] 27 (0, 0)) := ob HOUT.out N1.out
  have bL : W1.heap[l1]? = some (r.at .busy none) := by rw [← hW1]; exact ho_same (hd_alloc H1.out)
  have FW : Fr (fun b => b = l1) W W1 := by rw [← hW1]; exact ((Fr.refl _ _).alloc _).putObj _ _ (fun _ => rfl)
  have OW : OutAt W1 base v ds := HO.out.kept FW (by
      intro b hb e
      subst e
      exact HO.out.own_type hb H1.out) (by
      intro e he
      obtain ⟨_, _, hg, hq⟩ := HO.out.at_ e he
      exact ⟨ne_obj hg H1.out (by intro e; cases e), ne_obj hq H1.out (by intro e; cases e)⟩)
  have HW := Lib.hid hW1
  have HOB := Lib.hid (fun (b : Nat) (o : Obj) => @ob b o)
  have HFW := Lib.hid FW
  have HOW := Lib.hid OW
  have HbB := Lib.hid bB
  have Hb1 := Lib.hid b1
  have Hb2 := Lib.hid b2
  have Hb3 := Lib.hid b3
  have HbL := Lib.hid bL
  have c1 : W1.cell? ⟨bTo, 0, none⟩ = some (.int .i64 to_) := cell_row b1 rfl
  have c2 : W1.cell? ⟨bMost, 0, none⟩ = some (.int .i64 most) := cell_row b2 rfl
  have c3 : W1.cell? ⟨W.heap.size, 0, none⟩ = some (Value.slice (some ⟨d.g, 0, none⟩) d.row.f0.length d.row.f0.length) := cell_row bB rfl
  have c4 : W1.cell? ⟨W.heap.size, 1, none⟩ = some (Value.slice (some ⟨d.q, 0, none⟩) d.row.f1.length d.row.f1.length) := cell_row bB rfl
  have c5 : W1.cell? ⟨W.heap.size, 2, none⟩ = some (.int .i64 d.row.f2) := cell_row bB rfl
  have c6 : W1.cell? ⟨W.heap.size, 3, none⟩ = some (.int .i64 d.row.f3) := cell_row bB rfl
  have c7 : W1.cell? ⟨W.heap.size, 4, none⟩ = some (.bool d.row.f4) := cell_row bB rfl
  have c8 : W1.frozen? ⟨W.heap.size, 3, none⟩ = false := free_row bB
  have c9 : W1.frozen? ⟨bOut, 0, none⟩ = false := free_row b3
  have e1 : bTo ≠ W.heap.size := Nat.ne_of_lt (lt_of_block HTO.out)
  have e2 : bMost ≠ W.heap.size := Nat.ne_of_lt (lt_of_block HMO.out)
  have e3 : bOut ≠ W.heap.size := Nat.ne_of_lt (lt_of_block HOUT.out)
  have e4 : bTo ≠ bOut := ne_type HTO.out HOUT.out (by decide)
  have e5 : bMost ≠ bOut := ne_type HMO.out HOUT.out (by decide)
  clear hW1 ob FW OW bB b1 b2 b3 bL
  obtain ⟨i0, hi, hz0, hz1, hz2⟩ := info_parts info39
  rcases HO.out.own.2 with ⟨hv, h0⟩ | ⟨g, cap, cur, hv, hgb, hgc, hnc, hcm, hcs, htake⟩
  · have hd0 : ds = [] := List.eq_nil_of_length_eq_zero h0
    subst hv hd0
    have c0 : W1.cell? ⟨bOut, 0, none⟩ = some (.slice none 0 0) := cell_row Hb3.out rfl
    have HC0 := Lib.hid c0
    gi_wp2_with (first
      | (with_reducible refine wpListIn_buildAt rfl 27 39 1 _ rfl (W.heap.size + 1) ?y1 #[Value.slice (some ⟨d.g, 0, none⟩) d.row.f0.length d.row.f0.length, Value.slice (some ⟨d.q, 0, none⟩) d.row.f1.length d.row.f1.length, .int .i64 d.row.f2, .int .i64 to_, .bool d.row.f4] i0 (.agg #[(.slice none 0 0), (.slice none 0 0), (.int .i64 0), (.int .i64 0), (.bool false)]) 5 Tryd.underlying27 hi hz0 hz1 (by decide) (by decide) rfl ?_; (case y1 => simp [KW]))
      | (gi_at_builtin; refine wpListIn_append_own_at _ rfl _ _ _ rfl base 39 i0 (.agg #[(.slice none 0 0), (.slice none 0 0), (.int .i64 0), (.int .i64 0), (.bool false)]) 5 72 Tryd.underlying27 hi hz0 hz1 hz2 rfl (by decide) _ 0 [] rfl ?x5 _ 1 1 [Value.slice (some ⟨d.g, 0, none⟩) d.row.f0.length d.row.f0.length, Value.slice (some ⟨d.q, 0, none⟩) d.row.f1.length d.row.f1.length, .int .i64 d.row.f2, .int .i64 to_, .bool d.row.f4] rfl rfl ?x2 ?x3 ?x6 ?x7 ?x4 ?_)
      | gi_in)
    · have hm0 : ([] : List RowD).length = most := by
        have h : (0 : Int) = (most : Int) := by simpa using ‹(0 == (most : Int)) = true›
        simp; omega
      exact round1_out H1.out HOUT.out HO.out (HFW.out.mono (fun b _ h => .inl h)) HbL.out Hb3.out hm0 (World.ownsRow_nil _ _ _ _)
    case x2 => exact news_alloc _ _ _ _ (by simp [KW])
    case x3 => simp [Value.oneCell']
    case x4 => simp [KW]; omega
    case x6 => simp only [maxLen]; omega
    case x7 => omega
    case x5 => exact World.ownsRow_nil _ _ _ _
    · intro v' w1 hown' hgrow hnil hat'
      have f2 : Fr (fun b => b = l1 ∨ (Value.slice none 0 0 : Value).ownBlock = some b) W w1 :=
        (((HFW.out.mono (fun b _ h => .inl h)).setCell ⟨W.heap.size, 3, none⟩ _ (fun h => absurd h (Nat.lt_irrefl _))).alloc _).grown hgrow (fun k hk _ => .inr hk)
      have k1 : w1.heap[l1]? = some (r.at .busy none) := (hgrow.block l1 (by simp [KW]; have := lt_of_block H1.out; omega) (by simp [Value.ownBlock])).trans (hd_alloc (hs_other HbL.out (by have := lt_of_block H1.out; omega)))
      have k2 : w1.heap[bOut]? = some (.cells #[Value.slice none 0 0] 27 (0, 0)) := (hgrow.block bOut (by simp [KW]; have := lt_of_block HOUT.out; omega) (by simp [Value.ownBlock])).trans (hd_alloc (hs_other Hb3.out e3))
      have hlt : 0 < most := by
        have h : ¬ (0 : Int) = (most : Int) := by simpa using ‹(0 == (most : Int)) = false›
        omega
      have hat2 : v'.ownBlock = (Value.slice none 0 0 : Value).ownBlock ∨ v'.ownBlock = some W.heap.size ∨ ∃ b, v'.ownBlock = some b ∧ W.heap.size ≤ b := by
        rcases hat' with h | h
        · exact .inl h
        · refine .inr (.inr ⟨W.heap.size + 2, by rw [h], by omega⟩)
      obtain ⟨g', cap', rfl⟩ := ownsRow_succ hown'
      have k3 : w1.cell? ⟨bOut, 0, none⟩ = some (Value.slice none 0 0) := cell_row k2 rfl
      have k4 : w1.frozen? ⟨bOut, 0, none⟩ = false := free_row k2
      have F2 := Lib.hid f2
      have K1 := Lib.hid k1
      have K2 := Lib.hid k2
      have HO' := Lib.hid hown'
      have HAT := Lib.hid hat2
      clear f2 k1 k2 hown' hgrow hnil hat' hat2
      gi_wp2
      exact round1_fin H1.out HOUT.out HO.out HG.out HQ.out hbg hbq F2.out K1.out K2.out hlt HO'.out HAT.out
  · subst hv
    have g1 : g ≠ W.heap.size := Nat.ne_of_lt (lt_of_block hgc)
    have g2 : g ≠ bOut := ne_type hgc HOUT.out (by decide)
    have g3 : g ≠ l1 := ne_obj hgc H1.out (by intro e; cases e)
    have g4 : g ≠ bTo := ne_type hgc HTO.out (by decide)
    have g5 : g ≠ bMost := ne_type hgc HMO.out (by decide)
    have HGC := Lib.hid hgc
    clear hgc hcs htake
    cases ds with
    | nil =>
    have c0 : W1.cell? ⟨bOut, 0, none⟩ = some (.slice (some ⟨g, 0, none⟩) 0 cap) := cell_row Hb3.out rfl
    have HC0 := Lib.hid c0
    gi_wp2_with (first
      | (with_reducible refine wpListIn_buildAt rfl 27 39 1 _ rfl (W.heap.size + 1) ?y1 #[Value.slice (some ⟨d.g, 0, none⟩) d.row.f0.length d.row.f0.length, Value.slice (some ⟨d.q, 0, none⟩) d.row.f1.length d.row.f1.length, .int .i64 d.row.f2, .int .i64 to_, .bool d.row.f4] i0 (.agg #[(.slice none 0 0), (.slice none 0 0), (.int .i64 0), (.int .i64 0), (.bool false)]) 5 Tryd.underlying27 hi hz0 hz1 (by decide) (by decide) rfl ?_; (case y1 => simp [KW]))
      | (gi_at_builtin; refine wpListIn_append_own_at _ rfl _ _ _ rfl base 39 i0 (.agg #[(.slice none 0 0), (.slice none 0 0), (.int .i64 0), (.int .i64 0), (.bool false)]) 5 72 Tryd.underlying27 hi hz0 hz1 hz2 rfl (by decide) _ 0 [] rfl ?x5 _ 1 1 [Value.slice (some ⟨d.g, 0, none⟩) d.row.f0.length d.row.f0.length, Value.slice (some ⟨d.q, 0, none⟩) d.row.f1.length d.row.f1.length, .int .i64 d.row.f2, .int .i64 to_, .bool d.row.f4] rfl rfl ?x2 ?x3 ?x6 ?x7 ?x4 ?_)
      | gi_in)
    · have hm0 : ([] : List RowD).length = most := by
        have h : (0 : Int) = (most : Int) := by simpa using ‹(0 == (most : Int)) = true›
        simp; omega
      exact round1_out H1.out HOUT.out HO.out (HFW.out.mono (fun b _ h => .inl h)) HbL.out Hb3.out hm0 HOW.out.own
    case x2 => exact news_alloc _ _ _ _ (by simp [KW])
    case x3 => simp [Value.oneCell']
    case x4 => simp [KW]; omega
    case x6 => simp only [maxLen]; omega
    case x7 => omega
    case x5 => exact (ownsRow_setCell_other HOW.out.own (by simp [Value.ownBlock]; exact g1) _).alloc _
    · intro v' w1 hown' hgrow hnil hat'
      have f2 : Fr (fun b => b = l1 ∨ (Value.slice (some ⟨g, 0, none⟩) 0 cap : Value).ownBlock = some b) W w1 :=
        (((HFW.out.mono (fun b _ h => .inl h)).setCell ⟨W.heap.size, 3, none⟩ _ (fun h => absurd h (Nat.lt_irrefl _))).alloc _).grown hgrow (fun k hk _ => .inr hk)
      have k1 : w1.heap[l1]? = some (r.at .busy none) := (hgrow.block l1 (by simp [KW]; have := lt_of_block H1.out; omega) (by simp [Value.ownBlock]; exact Ne.symm g3)).trans (hd_alloc (hs_other HbL.out (by have := lt_of_block H1.out; omega)))
      have k2 : w1.heap[bOut]? = some (.cells #[Value.slice (some ⟨g, 0, none⟩) 0 cap] 27 (0, 0)) := (hgrow.block bOut (by simp [KW]; have := lt_of_block HOUT.out; omega) (by simp [Value.ownBlock]; exact Ne.symm g2)).trans (hd_alloc (hs_other Hb3.out e3))
      have hlt : 0 < most := by
        have h : ¬ (0 : Int) = (most : Int) := by simpa using ‹(0 == (most : Int)) = false›
        omega
      have hat2 : v'.ownBlock = (Value.slice (some ⟨g, 0, none⟩) 0 cap : Value).ownBlock ∨ v'.ownBlock = some W.heap.size ∨ ∃ b, v'.ownBlock = some b ∧ W.heap.size ≤ b := by
        rcases hat' with h | h
        · exact .inl h
        · refine .inr (.inr ⟨W.heap.size + 2, by rw [h], by omega⟩)
      obtain ⟨g', cap', rfl⟩ := ownsRow_succ hown'
      have k3 : w1.cell? ⟨bOut, 0, none⟩ = some (Value.slice (some ⟨g, 0, none⟩) 0 cap) := cell_row k2 rfl
      have k4 : w1.frozen? ⟨bOut, 0, none⟩ = false := free_row k2
      have F2 := Lib.hid f2
      have K1 := Lib.hid k1
      have K2 := Lib.hid k2
      have HO' := Lib.hid hown'
      have HAT := Lib.hid hat2
      clear f2 k1 k2 hown' hgrow hnil hat' hat2
      gi_wp2
      exact round1_fin H1.out HOUT.out HO.out HG.out HQ.out hbg hbq F2.out K1.out K2.out hlt HO'.out HAT.out
    | cons d0 ds0 =>
    obtain ⟨m, hm1⟩ : ∃ m, m = ds0.length := ⟨_, rfl⟩
    have c0 : W1.cell? ⟨bOut, 0, none⟩ = some (.slice (some ⟨g, 0, none⟩) (m + 1) cap) := by rw [hm1]; exact cell_row Hb3.out rfl
    have HC0 := Lib.hid c0
    have hst := HOW.out.own.stored ((d0 :: ds0).length - 1) (Value.int .i64 d.row.f2)
    have hL : (d0 :: ds0).length = m + 1 := by rw [hm1]; rfl
    have hown1 : W1.ownsRow base 39 5 (.slice (some ⟨g, 0, none⟩) (m + 1) cap) (m + 1) (rowsV (d0 :: ds0)) := by rw [hm1]; exact HOW.out.own
    have hst := (hown1.stored (m * 5 + 3) (Value.int .i64 d.row.f2)).1
    have hse : (rowsV (d0 :: ds0)).set (m * 5 + 3) (Value.int .i64 d.row.f2) = rowsV (setLast (d0 :: ds0) d.row.f2) := by
      rw [setLast_V _ _ (by simp), hL, Nat.add_sub_cancel]
    rw [hse] at hst
    have hfz : W1.frozen? ⟨g, m * 5 + 3, none⟩ = false := hown1.frozenAt _
    obtain ⟨u, hu⟩ : ∃ u, W1.cell? ⟨g, m * 5 + 3, none⟩ = some u := by
      have h := hown1.cellAt (m * 5 + 3) (by omega)
      have hl : m * 5 + 3 < (rowsV (d0 :: ds0)).length := by rw [rowsV_len, hL]; omega
      exact ⟨_, h.trans (List.getElem?_eq_getElem hl)⟩
    have hb3 : W1.heap[bOut]? = some (.cells #[.slice (some ⟨g, 0, none⟩) (m + 1) cap] 27 (0, 0)) := by rw [hm1]; exact Hb3.out
    have HB3 := Lib.hid hb3
    have HM := Lib.hid hm1
    have HST := Lib.hid hst
    clear hb3
    have HL := Lib.hid hL
    have HD := Lib.hid hds
    have hmm : m ≤ 10000 := by omega
    clear hst hse hown1 hL hds hm1
    gi_wp2_with (first
      | (with_reducible refine wpListIn_buildAt rfl 27 39 1 _ rfl (W.heap.size + 1) ?y1 #[Value.slice (some ⟨d.g, 0, none⟩) d.row.f0.length d.row.f0.length, Value.slice (some ⟨d.q, 0, none⟩) d.row.f1.length d.row.f1.length, .int .i64 d.row.f2, .int .i64 to_, .bool d.row.f4] i0 (.agg #[(.slice none 0 0), (.slice none 0 0), (.int .i64 0), (.int .i64 0), (.bool false)]) 5 Tryd.underlying27 hi hz0 hz1 (by decide) (by decide) rfl ?_; (case y1 => simp [KW]))
      | (gi_at_builtin; refine wpListIn_append_own_at _ rfl _ _ _ rfl base 39 i0 (.agg #[(.slice none 0 0), (.slice none 0 0), (.int .i64 0), (.int .i64 0), (.bool false)]) 5 72 Tryd.underlying27 hi hz0 hz1 hz2 rfl (by decide) _ (m + 1) (rowsV (setLast (d0 :: ds0) d.row.f2)) rfl ?x5 _ 1 1 [Value.slice (some ⟨d.g, 0, none⟩) d.row.f0.length d.row.f0.length, Value.slice (some ⟨d.q, 0, none⟩) d.row.f1.length d.row.f1.length, .int .i64 d.row.f2, .int .i64 to_, .bool d.row.f4] rfl rfl ?x2 ?x3 ?x6 ?x7 ?x4 ?_)
      | gi_in)
    · have hm0 : (d0 :: ds0).length = most := by
        have h : (m : Int) + 1 = (most : Int) := by simpa using ‹((m : Int) + 1 == (most : Int)) = true›
        have := HL.out
        omega
      have hst := HST.out
      have hm1 := HM.out
      subst hm1
      exact round1_out H1.out HOUT.out HO.out ((HFW.out.mono (fun b _ h => .inl h)).setCell _ _ (fun _ => .inr rfl)) (hs_other HbL.out (Ne.symm g3)) (hs_other HB3.out (Ne.symm g2)) hm0 hst
    case x2 => exact news_alloc _ _ _ _ (by simp [KW])
    case x3 => simp [Value.oneCell']
    case x4 => simp [KW]; omega
    case x6 => simp only [maxLen]; omega
    case x7 => omega
    case x5 => exact (ownsRow_setCell_other HST.out (by simp [Value.ownBlock]; exact g1) _).alloc _
    · intro v' w1 hown' hgrow hnil hat'
      have f2 : Fr (fun b => b = l1 ∨ (Value.slice (some ⟨g, 0, none⟩) (m + 1) cap : Value).ownBlock = some b) W w1 :=
        ((((HFW.out.mono (fun b _ h => .inl h)).setCell ⟨g, m * 5 + 3, none⟩ _ (fun _ => .inr rfl)).setCell ⟨W.heap.size, 3, none⟩ _ (fun h => absurd h (Nat.lt_irrefl _))).alloc _).grown hgrow (fun k hk _ => .inr hk)
      have k1 : w1.heap[l1]? = some (r.at .busy none) := (hgrow.block l1 (by simp [KW]; have := lt_of_block H1.out; omega) (by simp [Value.ownBlock]; exact Ne.symm g3)).trans (hd_alloc (hs_other (hs_other HbL.out (Ne.symm g3)) (by have := lt_of_block H1.out; omega)))
      have k2 : w1.heap[bOut]? = some (.cells #[Value.slice (some ⟨g, 0, none⟩) (m + 1) cap] 27 (0, 0)) := (hgrow.block bOut (by simp [KW]; have := lt_of_block HOUT.out; omega) (by simp [Value.ownBlock]; exact Ne.symm g2)).trans (hd_alloc (hs_other (hs_other HB3.out (Ne.symm g2)) e3))
      have hlt : m + 1 < most := by
        have h : ¬ (m : Int) + 1 = (most : Int) := by simpa using ‹((m : Int) + 1 == (most : Int)) = false›
        have := HD.out
        have := HL.out
        omega
      have hat2 : v'.ownBlock = (Value.slice (some ⟨g, 0, none⟩) (m + 1) cap : Value).ownBlock ∨ v'.ownBlock = some W.heap.size ∨ ∃ b, v'.ownBlock = some b ∧ W.heap.size ≤ b := by
        rcases hat' with h | h
        · exact .inl h
        · refine .inr (.inr ⟨W.heap.size + 2, by rw [h], by omega⟩)
      obtain ⟨g', cap', rfl⟩ := ownsRow_succ hown'
      have k3 : w1.cell? ⟨bOut, 0, none⟩ = some (Value.slice (some ⟨g, 0, none⟩) (m + 1) cap) := cell_row k2 rfl
      have k4 : w1.frozen? ⟨bOut, 0, none⟩ = false := free_row k2
      have F2 := Lib.hid f2
      have K1 := Lib.hid k1
      have K2 := Lib.hid k2
      have HO' := Lib.hid hown'
      have HAT := Lib.hid hat2
      clear f2 k1 k2 hown' hgrow hnil hat' hat2
      gi_wp2
      have hm1 := HM.out
      subst hm1
      exact round1_fin H1.out HOUT.out HO.out HG.out HQ.out hbg hbq F2.out K1.out K2.out hlt (by rw [rowsV_emitD]; exact HO'.out) HAT.out
end Go.Proofs.YtppjgofjjcdcdaaDoor

/- layout.units: its units, and the loop over the characters as a consumer. -/
namespace Go.Proofs.YtppjgofjjcdcdaaDoor
open PLayoutRows
open Go.RowKit
structure Unt where
  cells : List Cell
  pos : Int
  feed : Bool
def tabN (tab col : Int) : Int := tab - col % tab
def oneU (tab col : Int) (x : Chr) : List Unt × Int :=
  if x.c = 10 then ([⟨[], x.pos, true⟩], 0)
  else if x.c = 9 then (List.replicate (tabN tab col).toNat ⟨[⟨32, x.look⟩], x.pos, false⟩, col + tabN tab col)
  else if cellsP x.c x.look = [] then ([], col) else ([⟨cellsP x.c x.look, x.pos, false⟩], col + (cellsP x.c x.look).length)
def unitsC (tab : Int) (xs : List Chr) : List Unt × Int := xs.foldl (fun u x => (u.1 ++ (oneU tab u.2 x).1, (oneU tab u.2 x).2)) ([], 0)
theorem unitsC_snoc (tab : Int) (xs : List Chr) (x : Chr) : unitsC tab (xs ++ [x]) = ((unitsC tab xs).1 ++ (oneU tab (unitsC tab xs).2 x).1, (oneU tab (unitsC tab xs).2 x).2) := by simp [unitsC]
theorem cellsP_len (c : Int) (l : Look) : (cellsP c l).length ≤ 2 := by
  unfold cellsP
  split
  · simp
  · split
    · simp
    · split <;> simp
theorem tabN_pos (tab col : Int) (h1 : 1 ≤ tab) (_hc : 0 ≤ col) : 1 ≤ tabN tab col ∧ tabN tab col ≤ tab := by
  have h2 := Int.emod_lt_of_pos col (show 0 < tab by omega)
  have h3 := Int.emod_nonneg col (show tab ≠ 0 by omega)
  unfold tabN
  omega
theorem col_bound' (tab : Int) (h1 : 1 ≤ tab) (h2 : tab ≤ 64) : ∀ (xs : List Chr) (u : List Unt × Int) (n : Nat), 0 ≤ u.2 → u.2 ≤ 64 * n →
    0 ≤ (xs.foldl (fun u x => (u.1 ++ (oneU tab u.2 x).1, (oneU tab u.2 x).2)) u).2 ∧ (xs.foldl (fun u x => (u.1 ++ (oneU tab u.2 x).1, (oneU tab u.2 x).2)) u).2 ≤ 64 * ((n + xs.length : Nat) : Int)
  | [], u, n, a, b => ⟨a, by simpa using b⟩
  | x :: xs, u, n, a, b => by
    have ht := tabN_pos tab u.2 h1 a
    have hl := cellsP_len x.c x.look
    have h : 0 ≤ (oneU tab u.2 x).2 ∧ (oneU tab u.2 x).2 ≤ 64 * ((n + 1 : Nat) : Int) := by
      unfold oneU
      split
      · simp; omega
      · split
        · simp; omega
        · split
          · simp; omega
          · simp; omega
    have := col_bound' tab h1 h2 xs (u.1 ++ (oneU tab u.2 x).1, (oneU tab u.2 x).2) (n + 1) h.1 h.2
    rw [List.foldl_cons, List.length_cons]
    refine ⟨this.1, ?_⟩
    have h3 := this.2
    rw [show n + (xs.length + 1) = n + 1 + xs.length by omega]
    exact h3
theorem col_bound (tab : Int) (h1 : 1 ≤ tab) (h2 : tab ≤ 64) (xs : List Chr) : 0 ≤ (unitsC tab xs).2 ∧ (unitsC tab xs).2 ≤ 64 * (xs.length : Int) := by
  have := col_bound' tab h1 h2 xs ([], 0) 0 (Int.le_refl _) (by simp)
  rw [Nat.zero_add] at this
  exact this
def untV (v : Value) (u : Unt) : Value := .agg #[v, .int .i64 u.pos, .bool u.feed]
/-- The arguments for a unit: its cells lie in a block that the consumer may not change. -/
def UntRep (u : Unt) (a : Array Value) (W : World) (O : Nat → Prop) : Prop :=
  ∃ A n c, a = #[.agg #[.slice A n c, .int .i64 u.pos, .bool u.feed]] ∧ n = u.cells.length ∧ n ≤ 2 ∧
    ((u.cells = [] ∧ A = none) ∨ ∃ b, A = some ⟨b, 0, none⟩ ∧ W.heap[b]? = some (cellB u.cells) ∧ ¬ O b)
def boxY (l : Nat) (t : TypeId) : Obj := .cells #[.func (.yield l) #[] #[]] t (0, 0)
/-- What the round of the loop over the characters holds. -/
structure St3 (c2 : Cons Tryd.prog Unt) (r : Rec) (l3 by_ bt bc : Nat) (tab : Int) (st : LoopState) (pe : Option Code) (O2 : Nat → Prop) (W : World) (col : Int) : Prop where
  lrec : W.heap[l3]? = some (r.at st pe)
  n1 : ¬ O2 l3
  n2 : ¬ O2 bc
  n3 : ¬ O2 by_
  n4 : ¬ O2 bt
  col : W.heap[bc]? = some (boxI col)
  y : W.heap[by_]? = some (boxY c2.l 100)
  t : W.heap[bt]? = some (boxI tab)
theorem St3.step {c2 : Cons Tryd.prog Unt} {r : Rec} {l3 by_ bt bc : Nat} {tab : Int} {st : LoopState} {pe : Option Code} {O O' : Nat → Prop} {W W' : World} {col : Int}
    (h : St3 c2 r l3 by_ bt bc tab st pe O W col) (k : Step O O' W W') : St3 c2 r l3 by_ bt bc tab st pe O' W' col :=
  ⟨k.at h.lrec h.n1, k.not (lt_of_block h.lrec) h.n1, k.not (lt_of_block h.col) h.n2, k.not (lt_of_block h.y) h.n3, k.not (lt_of_block h.t) h.n4, k.at h.col h.n2, k.at h.y h.n3, k.at h.t h.n4⟩
/-- Blocks of the round's own, fresh ones, may change. -/
theorem St3.fr {c2 : Cons Tryd.prog Unt} {r : Rec} {l3 by_ bt bc : Nat} {tab : Int} {st : LoopState} {pe : Option Code} {O T : Nat → Prop} {W W' : World} {col : Int}
    (h : St3 c2 r l3 by_ bt bc tab st pe O W col) (k : Fr T W W') (h1 : ¬ T l3) (h2 : ¬ T bc) (h3 : ¬ T by_) (h4 : ¬ T bt) : St3 c2 r l3 by_ bt bc tab st pe O W' col :=
  ⟨k.at h.lrec h1, h.n1, h.n2, h.n3, h.n4, k.at h.col h2, k.at h.y h3, k.at h.t h4⟩
theorem unitsC_pre (tab : Int) {ys xs : List Chr} (h : ys <+: xs) : (unitsC tab ys).1 <+: (unitsC tab xs).1 := by
  obtain ⟨zs, rfl⟩ := h
  have key : ∀ (zs : List Chr) (u : List Unt × Int), u.1 <+: (zs.foldl (fun u x => (u.1 ++ (oneU tab u.2 x).1, (oneU tab u.2 x).2)) u).1 := by
    intro zs
    induction zs with
    | nil => intro u; exact List.prefix_rfl
    | cons z zs ih =>
      intro u
      have h := ih (u.1 ++ (oneU tab u.2 z).1, (oneU tab u.2 z).2)
      exact List.IsPrefix.trans (List.prefix_append _ _) h
  unfold unitsC
  rw [List.foldl_append]
  exact key zs _
def sndOf : Code → Code
  | .seq _ y => y
  | c => c
def fstOf : Code → Code
  | .seq x _ => x
  | c => c
def inOf : Code → Code
  | .block _ x => x
  | c => c
end Go.Proofs.YtppjgofjjcdcdaaDoor

/- layout.units: the end of a round: the unit is handed over n times, the column grows. -/
namespace Go.Proofs.YtppjgofjjcdcdaaDoor
open PLayoutRows
open Go.RowKit
attribute [local go_sem] Oper.semAt_some
set_option maxRecDepth 100000
set_option maxHeartbeats 2000000 in
theorem tail3 {u0 u1 u8 u9 u10 u11 u12 u13 u14 u15 u16 u17 u18 u19 u20 u21 u22 u23 u24 u25 u26 u27 u28 u29 u30 u31 u32 u33 u34 u35 u36 u37 u38 u39 u40 u41 u42 u43 u44 u45 u46 u47 u48 u49 u50 u51 : Value} (c2 : Cons Tryd.prog Unt) (hrep : ∀ u a W O, UntRep u a W O → c2.Rep u a W O) (r : Rec) (l3 by_ bt bc bx bu : Nat) (tab col : Int) (us : List Unt) (u : Unt) (n : Nat) (A : Option Addr) (m c : Nat) (O0 O2 : Nat → Prop) (W w : World)
    (Q : Exit → Act → World → Prop) (hJ : c2.J us O2 w) (st : St3 c2 r l3 by_ bt bc tab .busy none O2 w col)
    (hbu : w.heap[bu]? = some (.cells #[.slice A m c, .int .i64 u.pos, .bool u.feed] 96 (0, 0))) (nbu : ¬ O2 bu) (hm : m = u.cells.length) (hm2 : m ≤ 2)
    (hcell : (u.cells = [] ∧ A = none) ∨ ∃ b, A = some ⟨b, 0, none⟩ ∧ w.heap[b]? = some (cellB u.cells) ∧ ¬ O2 b) (hn : n ≤ 64) (hcol : 0 ≤ col ∧ col ≤ 1000000000000000)
    (hit : us ++ List.replicate n u <+: c2.items) (hS : Step (fun b => O0 b ∨ (b = l3 ∨ b = bc)) (fun b => O2 b ∨ (b = l3 ∨ b = bc)) W w) (hlo : c2.lo ≤ bc) (hbt : bt ≠ bc)
    (hQ1 : ∀ a w' O', c2.J (us ++ List.replicate n u) O' w' → St3 c2 r l3 by_ bt bc tab .busy none O' w' (col + n * m) → Step (fun b => O0 b ∨ (b = l3 ∨ b = bc)) (fun b => O' b ∨ (b = l3 ∨ b = bc)) W w' → Q .normal a w')
    (hQ2 : ∀ a w' O' ys, ys <+: c2.items → c2.D ys O' w' → St3 c2 r l3 by_ bt bc tab .busy none O' w' col → Step (fun b => O0 b ∨ (b = l3 ∨ b = bc)) (fun b => O' b ∨ (b = l3 ∨ b = bc)) W w' → Q .ret a w') :
    (sndOf (sndOf (inOf (bodyOf Tryd.f65)))).wpIn (Fence.wide.inRound l3) 0 Tryd.prog Q { tmps := #[u0, u1, .pointer (some ⟨bt, 0, none⟩), .pointer (some ⟨by_, 0, none⟩), .pointer (some ⟨bc, 0, none⟩), .pointer (some ⟨bx, 0, none⟩), .int .i64 n, .pointer (some ⟨bu, 0, none⟩), u8, u9, u10, u11, u12, u13, u14, u15, u16, u17, u18, u19, u20, u21, u22, u23, u24, u25, u26, u27, u28, u29, u30, u31, u32, u33, u34, u35, u36, u37, u38, u39, u40, u41, u42, u43, u44, u45, u46, u47, u48, u49, u50, u51], defers := [] } w := by
  simp only [bodyOf, Tryd.f65, Option.bind_some, rangeOf, Option.or_some, Option.map_some, Option.getD_some, Option.getD_none, sndOf, inOf]
  have HJ := Lib.hid hJ
  have HST := Lib.hid st
  have HBU := Lib.hid hbu
  have HS := Lib.hid hS
  have HQ1 := Lib.hid hQ1
  have HQ2 := Lib.hid hQ2
  have HIT := Lib.hid hit
  have HCE := Lib.hid hcell
  have HREP := Lib.hid hrep
  have HM := Lib.hid hm
  have HBT := Lib.hid hbt
  clear hm hbt hJ st hbu hS hQ1 hQ2 hit hcell hrep
  gi_wp2
  gi_loopw [38] (fun i wi => ∃ (k : Nat) (O : Nat → Prop), i = .int .i64 k ∧ k ≤ n ∧ c2.J (us ++ List.replicate k u) O wi ∧ Step O2 O w wi) (fun i _ => n - (intOf i).toNat)
  case atStart => exact ⟨0, O2, rfl, Nat.zero_le _, by simpa using HJ.out, Step.refl _ _⟩
  case round =>
    obtain ⟨k, O, rfl, hk, hJk, hSk⟩ := hrel
    have st := HST.out.step hSk
    have hbu := hSk.at HBU.out nbu
    have nbu' := hSk.not (lt_of_block HBU.out) nbu
    have y1 : wr.cell? ⟨by_, 0, none⟩ = some (.func (.yield c2.l) #[] #[]) := cell_row st.y rfl
    have y2 : wr.cell? ⟨bu, 0, none⟩ = some (.slice A m c) := cell_row hbu rfl
    have y3 : wr.cell? ⟨bu, 1, none⟩ = some (.int .i64 u.pos) := cell_row hbu rfl
    have y4 : wr.cell? ⟨bu, 2, none⟩ = some (.bool u.feed) := cell_row hbu rfl
    have y5 : wr.cell? ⟨bc, 0, none⟩ = some (.int .i64 col) := cell_row st.col rfl
    have y6 : wr.frozen? ⟨bc, 0, none⟩ = false := free_row st.col
    have HSK := Lib.hid hSk
    have HST' := Lib.hid st
    by_cases hkn : k < n
    · have hi : (us ++ List.replicate k u) ++ [u] <+: c2.items := by
        refine List.IsPrefix.trans ?_ HIT.out
        rw [List.append_assoc]
        refine (List.prefix_append_right_inj us).2 ⟨List.replicate (n - k - 1) u, ?_⟩
        rw [show [u] = List.replicate 1 u from rfl, List.replicate_append_replicate, List.replicate_append_replicate]
        congr 1; omega
      have hr : UntRep u #[.agg #[.slice A m c, .int .i64 u.pos, .bool u.feed]] wr O := ⟨A, m, c, rfl, HM.out, hm2, by
        rcases HCE.out with h | ⟨b, h1, h2, h3⟩
        · exact .inl h
        · exact .inr ⟨b, h1, hSk.at h2 h3, hSk.not (lt_of_block h2) h3⟩⟩
      have hi' := hi
      obtain ⟨tm, hy, hR⟩ := c2.yield hi hJk (HREP.out _ _ _ _ hr)
      have HR := Lib.hid (round_wide (n := 0) (l' := l3) hR)
      clear hi hr hR hJk hSk st hbu
      gi_wp2
      refine ⟨rfl, HR.out.mono ?_⟩
      rintro e W3 (⟨rfl, O3, hJ3, hS3⟩ | ⟨rfl, O3, hD3, hS3⟩)
      · gi_wp2
        go_roundw
        case rel => exact ⟨k + 1, O3, by simp, by omega, by rw [List.replicate_succ', ← List.append_assoc]; exact hJ3, HSK.out.trans hS3⟩
        case measure => simp [intOf]; omega
      · gi_wp2
        exact HQ2.out _ _ O3 _ hi' hD3 (HST'.out.step hS3) (HS.out.trans ((HSK.out.trans hS3).or _))
    · have hkn' : k = n := by omega
      subst hkn'
      have HJK := Lib.hid hJk
      have hkm : (0 : Int) ≤ (k : Int) * (m : Int) ∧ (k : Int) * (m : Int) ≤ 128 := by
        have h := Nat.mul_le_mul hn hm2
        have e : ((k * m : Nat) : Int) = (k : Int) * (m : Int) := by simp
        omega
      obtain ⟨hkm1, hkm2⟩ := hkm
      clear hJk hSk st hbu
      gi_wp2
      have st' := HST'.out
      have f : Fr (fun b => b = bc) wr (wr.setCell ⟨bc, 0, none⟩ (.int .i64 (col + k * m))) := (Fr.refl _ _).setCell _ _ (fun _ => rfl)
      have e1 : l3 ≠ bc := ne_obj st'.lrec st'.col (by intro e; cases e)
      have e2 : by_ ≠ bc := ne_type st'.y st'.col (by decide)
      have e3 : bt ≠ bc := HBT.out
      refine HQ1.out _ _ O (c2.stable HJK.out f (fun b _ hb => by rw [hb]; exact ⟨st'.n2, hlo⟩)) ⟨f.at st'.lrec e1, st'.n1, st'.n2, st'.n3, st'.n4, hs_same st'.col, f.at st'.y e2, f.at st'.t e3⟩ ?_
      exact (HS.out.trans (HSK.out.or _)).fr f (fun b _ hb => .inl (.inr (.inr hb)))
end Go.Proofs.YtppjgofjjcdcdaaDoor

/- layout.units: the switch of a round: which unit a character is, and how often. -/
namespace Go.Proofs.YtppjgofjjcdcdaaDoor
open PLayoutRows
open Go.RowKit
attribute [local go_sem] Oper.semAt_some
def boxX (x : Chr) : Obj := .cells #[.int .i64 x.c, .int .i64 x.pos, .int .i64 x.look.f0, .int .i64 x.look.f1, .bool x.look.f2, .bool x.look.f3, .bool x.look.f4] 116 (0, 0)
structure Sw (c2 : Cons Tryd.prog Unt) (r : Rec) (l3 by_ bt bc bu : Nat) (tab col : Int) (x : Chr) (O2 : Nat → Prop) (w w' : World) (u : Unt) (n : Nat) (A : Option Addr) (m c : Nat) (col' : Int) : Prop where
  st : St3 c2 r l3 by_ bt bc tab .busy none O2 w' col'
  hbu : w'.heap[bu]? = some (.cells #[.slice A m c, .int .i64 u.pos, .bool u.feed] 96 (0, 0))
  hm : m = u.cells.length
  hm2 : m ≤ 2
  hcell : (u.cells = [] ∧ A = none) ∨ ∃ b, A = some ⟨b, 0, none⟩ ∧ w'.heap[b]? = some (cellB u.cells) ∧ ¬ O2 b
  hn : n ≤ 64
  fr : Fr (fun b => b = bc ∨ b = bu) w w'
  one : oneU tab col x = (List.replicate n u, col' + n * m)
  c0 : 0 ≤ col'
  c1 : col' ≤ col
set_option maxRecDepth 100000
set_option maxHeartbeats 4000000 in
theorem sw3 {u0 u1 u8 u9 u10 u11 u12 u13 u14 u15 u16 u17 u18 u19 u20 u21 u22 u23 u24 u25 u26 u27 u28 u29 u30 u31 u32 u33 u34 u35 u36 u37 u38 u39 u40 u41 u42 u43 u44 u45 u46 u47 u48 u49 u50 u51 : Value} (c2 : Cons Tryd.prog Unt) (r : Rec) (l3 by_ bt bc bx bu : Nat) (tab col : Int) (x : Chr) (O2 : Nat → Prop) (w : World)
    (st : St3 c2 r l3 by_ bt bc tab .busy none O2 w col) (hbx : w.heap[bx]? = some (boxX x)) (hbu : w.heap[bu]? = some (.cells #[.slice none 0 0, .int .i64 x.pos, .bool false] 96 (0, 0)))
    (nbu : ¬ O2 bu) (hO : ∀ b, O2 b → b < w.heap.size) (ht1 : 1 ≤ tab) (ht2 : tab ≤ 64) (hc1 : 0 ≤ col) (hc2 : col ≤ 1000000000000000) (hbt : bt ≠ bc) (Q : Exit → Act → World → Prop)
    (hQ : ∀ (v14 v15 v16 v17 v18 v19 v20 v21 v22 v23 v24 v25 v26 v27 v28 v29 v30 v31 v32 v33 v34 v35 v36 : Value) (n : Nat) (u : Unt) (A : Option Addr) (m c : Nat) (col' : Int) (w' : World), Sw c2 r l3 by_ bt bc bu tab col x O2 w w' u n A m c col' → Q .normal { tmps := #[u0, u1, .pointer (some ⟨bt, 0, none⟩), .pointer (some ⟨by_, 0, none⟩), .pointer (some ⟨bc, 0, none⟩), .pointer (some ⟨bx, 0, none⟩), .int .i64 (n : Nat), .pointer (some ⟨bu, 0, none⟩), u8, u9, u10, u11, u12, u13, v14, v15, v16, v17, v18, v19, v20, v21, v22, v23, v24, v25, v26, v27, v28, v29, v30, v31, v32, v33, v34, v35, v36, u37, u38, u39, u40, u41, u42, u43, u44, u45, u46, u47, u48, u49, u50, u51], defers := [] } w') :
    (fstOf (sndOf (inOf (bodyOf Tryd.f65)))).wpIn (Fence.wide.inRound l3) 0 Tryd.prog Q
      { tmps := #[u0, u1, .pointer (some ⟨bt, 0, none⟩), .pointer (some ⟨by_, 0, none⟩), .pointer (some ⟨bc, 0, none⟩), .pointer (some ⟨bx, 0, none⟩), .int .i64 1, .pointer (some ⟨bu, 0, none⟩), u8, u9, u10, u11, u12, u13, u14, u15, u16, u17, u18, u19, u20, u21, u22, u23, u24, u25, u26, u27, u28, u29, u30, u31, u32, u33, u34, u35, u36, u37, u38, u39, u40, u41, u42, u43, u44, u45, u46, u47, u48, u49, u50, u51], defers := [] } w := by
  simp only [bodyOf, Tryd.f65, Option.bind_some, rangeOf, Option.or_some, Option.map_some, Option.getD_some, Option.getD_none, sndOf, inOf, fstOf]
  have y1 : w.cell? ⟨bx, 0, none⟩ = some (.int .i64 x.c) := cell_row hbx rfl
  have y2 : w.cell? ⟨bx, 1, none⟩ = some (.int .i64 x.pos) := cell_row hbx rfl
  have y3 : w.cell? ⟨bx, 2, none⟩ = some (.int .i64 x.look.f0) := cell_row hbx rfl
  have y4 : w.cell? ⟨bx, 3, none⟩ = some (.int .i64 x.look.f1) := cell_row hbx rfl
  have y5 : w.cell? ⟨bx, 4, none⟩ = some (.bool x.look.f2) := cell_row hbx rfl
  have y6 : w.cell? ⟨bx, 5, none⟩ = some (.bool x.look.f3) := cell_row hbx rfl
  have y7 : w.cell? ⟨bx, 6, none⟩ = some (.bool x.look.f4) := cell_row hbx rfl
  have z0 : w.frozen? ⟨bu, 0, none⟩ = false := free_row hbu
  have z2 : w.frozen? ⟨bu, 2, none⟩ = false := free_row hbu
  have z3 : w.frozen? ⟨bc, 0, none⟩ = false := free_row st.col
  have z4 : w.cell? ⟨bc, 0, none⟩ = some (.int .i64 col) := cell_row st.col rfl
  have z5 : w.cell? ⟨bt, 0, none⟩ = some (.int .i64 tab) := cell_row st.t rfl
  have z6 : w.cell? ⟨bu, 0, none⟩ = some (.slice none 0 0) := cell_row hbu rfl
  have z7 : w.cell? ⟨bu, 2, none⟩ = some (.bool false) := cell_row hbu rfl
  have n1 : bx ≠ bu := ne_type hbx hbu (by decide)
  have n2 : bc ≠ bu := ne_type st.col hbu (by decide)
  have n3 : bt ≠ bu := ne_type st.t hbu (by decide)
  have n4 : by_ ≠ bu := ne_type st.y hbu (by decide)
  have n5 : l3 ≠ bu := ne_obj st.lrec hbu (by intro e; cases e)
  have n6 : by_ ≠ bc := ne_type st.y st.col (by decide)
  have n7 : l3 ≠ bc := ne_obj st.lrec st.col (by intro e; cases e)
  have s1 : bu < w.heap.size := lt_of_block hbu
  have HST := Lib.hid st
  have HBX := Lib.hid hbx
  have HBU := Lib.hid hbu
  have HO := Lib.hid hO
  have NBU := Lib.hid nbu
  have HQ := Lib.hid hQ
  have heq : ∀ (W : World) (a : Option Addr) (n c : Nat), (binOp .eql 36 (.slice a n c) (.slice none 0 0)).run Tryd.prog W = .ok (.bool a.isNone) W := fun W a n c => Lib.run_eql_slice_nil W _ 78 a n c 0 0 Tryd.underlying36
  clear hQ st hbx hbu hO nbu
  by_cases h10 : x.c = 10
  · gi_wp2
    refine HQ.out _ _ _ _ _ _ _ _ _ _ _ _ _ _ _ _ _ _ _ _ _ _ _ 1 ⟨[], x.pos, true⟩ none 0 0 0 _ ?_
    have f : Fr (fun b => b = bc ∨ b = bu) w ((w.setCell ⟨bu, 2, none⟩ (.bool true)).setCell ⟨bc, 0, none⟩ (.int .i64 0)) := ((Fr.refl _ _).setCell _ _ (fun _ => .inr rfl)).setCell _ _ (fun _ => .inl rfl)
    have st := HST.out
    exact ⟨⟨f.at st.lrec (by rintro (h | h); exact n7 h; exact n5 h), st.n1, st.n2, st.n3, st.n4, hs_same (hs_other st.col n2), f.at st.y (by rintro (h | h); exact n6 h; exact n4 h), f.at st.t (by rintro (h | h); exact hbt h; exact n3 h)⟩,
      hs_other (hs_same HBU.out) (Ne.symm n2), rfl, by omega, (.inl ⟨rfl, rfl⟩), by omega, f, by simp [oneU, h10], by omega, by omega⟩
  · by_cases h9 : x.c = 9
    · have htn := tabN_pos tab col ht1 hc1
      have hr1 : 0 ≤ col % tab := Int.emod_nonneg col (by omega)
      have hr2 : col % tab < tab := Int.emod_lt_of_pos col (by omega)
      obtain ⟨n, hn⟩ : ∃ n : Nat, (n : Int) = tabN tab col := ⟨(tabN tab col).toNat, by omega⟩
      have hw : tab - col % tab = (n : Int) := hn.symm
      have HW := Lib.hid hw
      have HN := Lib.hid hn
      have hn64 : n ≤ 64 := by omega
      clear hw hn htn
      have hb10 : (x.c == 10) = false := by simp [h10]
      have hb9 : (x.c == 9) = true := by simp [h9]
      gi_wp2
      refine wpIn_mono (Q := fun e a w' => e = .normal ∧ w' = w.drew ∧ ∃ v14 v15 v16 v17 v18 v19 v20 v21 v22 v23 v24 v25 v26 v27 v28 v29 v30 v31 v32 v33 v34 v35 v36, a = { tmps := #[u0, u1, .pointer (some ⟨bt, 0, none⟩), .pointer (some ⟨by_, 0, none⟩), .pointer (some ⟨bc, 0, none⟩), .pointer (some ⟨bx, 0, none⟩), .int .i64 (n : Nat), .pointer (some ⟨bu, 0, none⟩), u8, u9, u10, u11, u12, u13, v14, v15, v16, v17, v18, v19, v20, v21, v22, v23, v24, v25, v26, v27, v28, v29, v30, v31, v32, v33, v34, v35, v36, u37, u38, u39, u40, u41, u42, u43, u44, u45, u46, u47, u48, u49, u50, u51], defers := [] }) ?_ ?_
      · gi_region
        all_goals (refine ⟨rfl, rfl, ?_⟩; rw [IntWalk.i64_in _ (by omega), HW.out]; exact ⟨_, _, _, _, _, _, _, _, _, _, _, _, _, _, _, _, _, _, _, _, _, _, _, rfl⟩)
      · rintro e a w' ⟨rfl, rfl, v14, v15, v16, v17, v18, v19, v20, v21, v22, v23, v24, v25, v26, v27, v28, v29, v30, v31, v32, v33, v34, v35, v36, rfl⟩
        dsimp only
        gi_wp2
        have f : Fr (fun b => b = bu) w (((w.setCell ⟨bu, 0, none⟩ (.slice (some ⟨w.heap.size, 0, none⟩) 1 1)).alloc (.cells #[.int .i64 32, .int .i64 x.look.f0, .int .i64 x.look.f1, .bool x.look.f2, .bool x.look.f3, .bool x.look.f4] 78)).drew) := ((Fr.setCell (S := fun b => b = bu) (Fr.refl _ w) ⟨bu, 0, none⟩ (.slice (some ⟨w.heap.size, 0, none⟩) 1 1) (fun _ => rfl)).alloc _).drew
        refine HQ.out _ _ _ _ _ _ _ _ _ _ _ _ _ _ _ _ _ _ _ _ _ _ _ n ⟨[⟨32, x.look⟩], x.pos, false⟩ (some ⟨w.heap.size, 0, none⟩) 1 1 col _ ⟨HST.out.fr f n5 n2 n4 n3, hd_drew (hd_alloc (hs_same HBU.out)), rfl, by omega, (.inr ⟨w.heap.size, rfl, ?_, fun h => absurd (HO.out _ h) (Nat.lt_irrefl _)⟩), by omega, f.mono (fun _ _ h => Or.inr h), ?_, hc1, Int.le_refl _⟩
        · have h := World.alloc_heap_new (w.setCell ⟨bu, 0, none⟩ (.slice (some ⟨w.heap.size, 0, none⟩) 1 1)) (.cells #[.int .i64 32, .int .i64 x.look.f0, .int .i64 x.look.f1, .bool x.look.f2, .bool x.look.f3, .bool x.look.f4] 78)
          rw [World.size_setCell] at h
          exact hd_drew h
        · simp only [oneU, if_neg h10, if_pos h9]
          rw [← HN.out]
          simp
    · have hA : CallsIn (Fence.wide.inRound l3) 0 Tryd.prog 67 #[.agg #[.int .i64 x.c, .int .i64 x.pos, .int .i64 x.look.f0, .int .i64 x.look.f1, .bool x.look.f2, .bool x.look.f3, .bool x.look.f4]] w fun e w' => ∃ v, e = .returned v ∧ CellsV w w' v (cellsP x.c x.look) ∧ Fr Non w w' := CallsIn.inRound l3 (callsIn_wide.2 (cells_any x.c x.pos x.look w))
      have HA := Lib.hid hA
      clear hA
      gi_wp2_with fail
      refine ⟨trivial, rfl, HA.out.mono ?_⟩
      rintro e w1 ⟨v, rfl, hv, hf⟩
      have k0 : w1.frozen? ⟨bu, 0, none⟩ = false := free_row (hf.at HBU.out id)
      have k1 : w1.cell? ⟨bu, 0, none⟩ = some (.slice none 0 0) := cell_row (hf.at HBU.out id) rfl
      have HF := Lib.hid hf
      rcases hv with ⟨hc, rfl⟩ | ⟨hc, b, hb, rfl, hbb⟩
      · gi_wp2
        have f : Fr (fun b => b = bu) w (w1.setCell ⟨bu, 0, none⟩ (.slice none 0 0)) := (HF.out.mono (fun _ _ h => h.elim)).setCell _ _ (fun _ => rfl)
        refine HQ.out _ _ _ _ _ _ _ _ _ _ _ _ _ _ _ _ _ _ _ _ _ _ _ 0 ⟨[], x.pos, false⟩ none 0 0 col _ ⟨HST.out.fr f n5 n2 n4 n3, hs_same (HF.out.at HBU.out id), rfl, by omega, (.inl ⟨rfl, rfl⟩), by omega, f.mono (fun _ _ h => .inr h), ?_, hc1, Int.le_refl _⟩
        simp only [oneU, if_neg h10, if_neg h9, hc, if_true]
        simp
      · have HBB := Lib.hid hbb
        clear hbb
        gi_wp2
        have f : Fr (fun b => b = bu) w (w1.setCell ⟨bu, 0, none⟩ (.slice (some ⟨b, 0, none⟩) (cellsP x.c x.look).length (cellsP x.c x.look).length)) := (HF.out.mono (fun _ _ h => h.elim)).setCell _ _ (fun _ => rfl)
        refine HQ.out _ _ _ _ _ _ _ _ _ _ _ _ _ _ _ _ _ _ _ _ _ _ _ 1 ⟨cellsP x.c x.look, x.pos, false⟩ (some ⟨b, 0, none⟩) (cellsP x.c x.look).length (cellsP x.c x.look).length col _ ⟨HST.out.fr f n5 n2 n4 n3, hs_same (HF.out.at HBU.out id), rfl, cellsP_len _ _, (.inr ⟨b, rfl, hs_other HBB.out (by omega), fun h => absurd (HO.out _ h) (by omega)⟩), by omega, f.mono (fun _ _ h => .inr h), ?_, hc1, Int.le_refl _⟩
        simp only [oneU, if_neg h10, if_neg h9, hc, if_false]
        simp
end Go.Proofs.YtppjgofjjcdcdaaDoor

/- layout.units: a round of its loop over the characters. -/
namespace Go.Proofs.YtppjgofjjcdcdaaDoor
open PLayoutRows
open Go.RowKit
attribute [local go_sem] Oper.semAt_some
set_option maxRecDepth 100000
/-- The first region of the round: the unit's box. -/
theorem head3 {u0 u1 u6 u7 u8 u9 u11 u12 u13 u14 u15 u16 u17 u18 u19 u20 u21 u22 u23 u24 u25 u26 u27 u28 u29 u30 u31 u32 u33 u34 u35 u36 u37 u38 u39 u40 u41 u42 u43 u44 u45 u46 u47 u48 u49 u50 u51 : Value} (l3 bt by_ bc : Nat) (x : Chr) (W W2 : World) (v10 : Value) (hbx : W2.heap[W.heap.size]? = some (boxX x)) (Q : Exit → Act → World → Prop)
    (hQ : ∀ (v10 v11 v12 v13 : Value) (w' : World), w'.heap[W2.heap.size]? = some (.cells #[.slice none 0 0, .int .i64 x.pos, .bool false] 96 (0, 0)) → Fr Non W2 w' → Q .normal { tmps := #[u0, u1, .pointer (some ⟨bt, 0, none⟩), .pointer (some ⟨by_, 0, none⟩), .pointer (some ⟨bc, 0, none⟩), .pointer (some ⟨W.heap.size, 0, none⟩), .int .i64 1, .pointer (some ⟨W2.heap.size, 0, none⟩), u8, u9, v10, v11, v12, v13, u14, u15, u16, u17, u18, u19, u20, u21, u22, u23, u24, u25, u26, u27, u28, u29, u30, u31, u32, u33, u34, u35, u36, u37, u38, u39, u40, u41, u42, u43, u44, u45, u46, u47, u48, u49, u50, u51], defers := [] } w') :
    (fstOf (inOf (bodyOf Tryd.f65))).wpIn (Fence.wide.inRound l3) 0 Tryd.prog Q { tmps := #[u0, u1, .pointer (some ⟨bt, 0, none⟩), .pointer (some ⟨by_, 0, none⟩), .pointer (some ⟨bc, 0, none⟩), .pointer (some ⟨W.heap.size, 0, none⟩), u6, u7, u8, u9, v10, u11, u12, u13, u14, u15, u16, u17, u18, u19, u20, u21, u22, u23, u24, u25, u26, u27, u28, u29, u30, u31, u32, u33, u34, u35, u36, u37, u38, u39, u40, u41, u42, u43, u44, u45, u46, u47, u48, u49, u50, u51], defers := [] } W2 := by
  simp only [bodyOf, Tryd.f65, Option.bind_some, rangeOf, Option.or_some, Option.map_some, Option.getD_some, Option.getD_none, inOf, fstOf]
  have y2 : W2.cell? ⟨W.heap.size, 1, none⟩ = some (.int .i64 x.pos) := cell_row hbx rfl
  have n0 : W.heap.size ≠ W2.heap.size := Nat.ne_of_lt (lt_of_block hbx)
  have n1 : W.heap.size < W2.heap.size := lt_of_block hbx
  have HBX := Lib.hid hbx
  have HQ := Lib.hid hQ
  clear hbx hQ
  gi_region
  all_goals exact HQ.out _ _ _ _ _ (hd_drew (World.alloc_heap_new _ _)) (((Fr.refl _ _).alloc _).drew)
theorem bodyOf65 : bodyOf Tryd.f65 = .block 1 (.seq (fstOf (inOf (bodyOf Tryd.f65))) (.seq (fstOf (sndOf (inOf (bodyOf Tryd.f65)))) (sndOf (sndOf (inOf (bodyOf Tryd.f65)))))) := rfl
set_option maxHeartbeats 1000000 in
theorem round3 {u0 u1 u5 u6 u7 u8 u9 u10 u11 u12 u13 u14 u15 u16 u17 u18 u19 u20 u21 u22 u23 u24 u25 u26 u27 u28 u29 u30 u31 u32 u33 u34 u35 u36 u37 u38 u39 u40 u41 u42 u43 u44 u45 u46 u47 u48 u49 u50 u51 : Value} (c2 : Cons Tryd.prog Unt) (hrep : ∀ u a W O, UntRep u a W O → c2.Rep u a W O) (r : Rec) (fn l3 by_ bt bc D : Nat) (tab col : Int) (us us' : List Unt) (x : Chr) (O2 : Nat → Prop) (W : World)
    (hr : Rec.mk fn #[u0, u1, .pointer (some ⟨bt, 0, none⟩), .pointer (some ⟨by_, 0, none⟩), .pointer (some ⟨bc, 0, none⟩), u5, u6, u7, u8, u9, u10, u11, u12, u13, u14, u15, u16, u17, u18, u19, u20, u21, u22, u23, u24, u25, u26, u27, u28, u29, u30, u31, u32, u33, u34, u35, u36, u37, u38, u39, u40, u41, u42, u43, u44, u45, u46, u47, u48, u49, u50, u51] #[10] (assignOf Tryd.f65) (bodyOf Tryd.f65) D = r)
    (hJ : c2.J us O2 W) (st : St3 c2 r l3 by_ bt bc tab .ready none O2 W col) (ht1 : 1 ≤ tab) (ht2 : tab ≤ 64) (hc1 : 0 ≤ col) (hc2 : col ≤ 1000000000000000) (hus : us' = us ++ (oneU tab col x).1)
    (hit : us' <+: c2.items) (hlo : c2.lo ≤ bc) (hlo3 : c2.lo ≤ l3) (hbt : bt ≠ bc) :
    Yields Tryd.prog r l3 #[chrV x] W
      (fun W' => ∃ O', c2.J us' O' W' ∧ St3 c2 r l3 by_ bt bc tab .ready none O' W' (oneU tab col x).2 ∧ Step (fun b => O2 b ∨ (b = l3 ∨ b = bc)) (fun b => O' b ∨ (b = l3 ∨ b = bc)) W W')
      (fun c W' => c = .ret ∧ ∃ O' ys, ys <+: c2.items ∧ c2.D ys O' W' ∧ (∃ col', St3 c2 r l3 by_ bt bc tab .done (some .ret) O' W' col') ∧ Step (fun b => O2 b ∨ (b = l3 ∨ b = bc)) (fun b => O' b ∨ (b = l3 ∨ b = bc)) W W') := by
  have n1 : by_ ≠ l3 := ne_obj st.y st.lrec (by intro e; cases e)
  have n2 : bt ≠ l3 := ne_obj st.t st.lrec (by intro e; cases e)
  have n3 : bc ≠ l3 := ne_obj st.col st.lrec (by intro e; cases e)
  have n4 : by_ ≠ bc := ne_type st.y st.col (by decide)
  refine yields_lit hr ?_
  have HR := Lib.hid hr
  have HJ := Lib.hid hJ
  have HST := Lib.hid st
  have HIT := Lib.hid hit
  have HUS := Lib.hid hus
  have HREP := Lib.hid hrep
  clear hr hJ st hit hus hrep
  obtain ⟨B, hB⟩ : ∃ B, bodyOf Tryd.f65 = B := ⟨_, rfl⟩
  rw [hB]
  have HB := Lib.hid hB
  clear hB
  simp only [assignOf, Tryd.f65, Option.bind_some, rangeOf, Option.or_some, Option.map_some, Option.getD_some, Option.getD_none, chrV]
  simp only [List.zip_toArray, List.zip_cons_cons, List.zip_nil_right, List.foldl_toArray', List.foldl_cons, List.foldl_nil, List.setIfInBounds_toArray, List.set_cons_succ, List.set_cons_zero]
  gi_wp2
  refine ⟨hd_alloc HST.out.lrec, ?_⟩
  generalize hW1 : W.alloc (.cells #[.int .i64 x.c, .int .i64 x.pos, .int .i64 x.look.f0, .int .i64 x.look.f1, .bool x.look.f2, .bool x.look.f3, .bool x.look.f4] 116) = W1
  have hs1 : W1.heap.size = W.heap.size + 1 := by rw [← hW1]; simp
  have hx1 : W1.heap[W.heap.size]? = some (boxX x) := by rw [← hW1]; exact World.alloc_heap_new _ _
  have f1 : Fr Non W W1 := by rw [← hW1]; exact (Fr.refl _ _).alloc _
  generalize hW2 : W1.putObj l3 (r.at .busy none) = W2
  have f2 : Fr (fun b => b = l3) W1 W2 := by rw [← hW2]; exact (Fr.refl _ _).putObj _ _ (fun _ => rfl)
  have f12 : Fr (fun b => b = l3) W W2 := (f1.mono (fun _ _ h => h.elim)).trans f2
  have hlt := lt_of_block HST.out.lrec
  have hx2 : W2.heap[W.heap.size]? = some (boxX x) := f2.at hx1 (by omega)
  have hr2 : W2.heap[l3]? = some (r.at .busy none) := by rw [← hW2]; exact ho_same (f1.at HST.out.lrec id)
  have st2 : St3 c2 r l3 by_ bt bc tab .busy none O2 W2 col := ⟨hr2, HST.out.n1, HST.out.n2, HST.out.n3, HST.out.n4, f12.at HST.out.col n3, f12.at HST.out.y n1, f12.at HST.out.t n2⟩
  have hJ2 : c2.J us O2 W2 := c2.stable HJ.out f12 (fun b _ h => by rw [h]; exact ⟨HST.out.n1, hlo3⟩)
  clear hW1 hW2
  rw [← HB.out, bodyOf65]
  refine wpIn_block (wpIn_seq ?_)
  refine head3 l3 bt by_ bc x W W2 _ hx2 _ ?_
  intro v10 v11 v12 v13 W3 hu f3
  have f13 : Fr (fun b => b = l3) W W3 := f12.trans (f3.mono (fun _ _ h => h.elim))
  have st3 : St3 c2 r l3 by_ bt bc tab .busy none O2 W3 col := st2.fr f3 id id id id
  have hJ3 : c2.J us O2 W3 := c2.stable hJ2 f3 (fun _ _ h => h.elim)
  have hx3 : W3.heap[W.heap.size]? = some (boxX x) := f3.at hx2 id
  have hOlt : ∀ b, O2 b → b < W.heap.size := fun b h => c2.lt HJ.out h
  have nbu : ¬ O2 W2.heap.size := fun h => by have := hOlt _ h; have := f12.size; omega
  refine wpIn_seq ?_
  refine sw3 c2 r l3 by_ bt bc W.heap.size W2.heap.size tab col x O2 W3 st3 hx3 hu nbu (fun b h => Nat.lt_of_lt_of_le (hOlt b h) f13.size) ht1 ht2 hc1 hc2 hbt _ ?_
  intro v14 v15 v16 v17 v18 v19 v20 v21 v22 v23 v24 v25 v26 v27 v28 v29 v30 v31 v32 v33 v34 v35 v36 n u A m c col' W4 sw
  have f4 : Fr (fun b => b = l3 ∨ b = bc) W W4 := (f13.mono (fun _ _ h => .inl h)).then sw.fr (fun b hb h => by
    rcases h with h | h
    · exact .inr h
    · have := f12.size; omega)
  have hS4 : Step (fun b => O2 b ∨ (b = l3 ∨ b = bc)) (fun b => O2 b ∨ (b = l3 ∨ b = bc)) W W4 := ⟨f4.mono (fun _ _ h => .inr h), fun _ h => .inl h⟩
  have hJ4 : c2.J us O2 W4 := c2.stable hJ3 sw.fr (fun b _ h => by
    rcases h with h | h
    · rw [h]; exact ⟨HST.out.n2, hlo⟩
    · rw [h]; exact ⟨nbu, by have := f12.size; omega⟩)
  have hone := sw.one
  have hus := HUS.out
  rw [hone] at hus
  refine tail3 c2 HREP.out r l3 by_ bt bc W.heap.size W2.heap.size tab col' us u n A m c O2 O2 W W4 _ hJ4 sw.st sw.hbu nbu sw.hm sw.hm2 sw.hcell sw.hn ⟨sw.c0, by have := sw.c1; omega⟩ (by rw [← hus]; exact HIT.out) hS4 hlo hbt ?_ ?_
  · intro a w' O' hJ' st' hS'
    have f5 : Fr (fun b => b = l3) w' (w'.putObj l3 (r.at .ready none)) := (Fr.refl _ _).putObj _ _ (fun _ => rfl)
    refine ⟨st'.lrec, O', ?_, ⟨ho_same st'.lrec, st'.n1, st'.n2, st'.n3, st'.n4, ?_, f5.at st'.y n1, f5.at st'.t n2⟩, hS'.fr f5 (fun b _ h => .inl (.inr (.inl h)))⟩
    · rw [hus]; exact c2.stable hJ' f5 (fun b _ h => by rw [h]; exact ⟨st'.n1, hlo3⟩)
    · rw [hone]; exact f5.at st'.col n3
  · intro a w' O' ys hys hD st' hS'
    have f5 : Fr (fun b => b = l3) w' (w'.putObj l3 (r.at .done (some .ret))) := (Fr.refl _ _).putObj _ _ (fun _ => rfl)
    exact ⟨st'.lrec, rfl, O', ys, hys, c2.stableD hD f5 (fun b _ h => by rw [h]; exact ⟨st'.n1, hlo3⟩), ⟨col', ho_same st'.lrec, st'.n1, st'.n2, st'.n3, st'.n4, f5.at st'.col n3, f5.at st'.y n1, f5.at st'.t n2⟩, hS'.fr f5 (fun b _ h => .inl (.inr (.inl h)))⟩
end Go.Proofs.YtppjgofjjcdcdaaDoor

/- layout.units: the iterator. -/
namespace Go.Proofs.YtppjgofjjcdcdaaDoor
open PLayoutRows
open Go.RowKit Go.Proofs.YtppjgofjjcdcdaaDoorW.PrintWords
attribute [local go_sem] Oper.semAt_some
/-- An iterator's end behind a range over a function. -/
theorem ends_mark {P : Program} {fn : Func} {tmps : Array Value} {w : World} {D : Nat} {R : Ending → World → Prop} (hres : fn.results = #[]) (hd : w.heap[D]? = some (.deferred (some [])))
    (hR : ∀ v, R (.returned v) (w.putObj D (.deferred none))) : LeavesInM Fence.wide 0 P fn tmps R [{ target := .collected D, args := #[] }] .returning w := by
  refine ⟨by simp, .inl ⟨_, _, rfl, run_takeDeferred hd, ?_⟩⟩
  exact ⟨_, results_none hres _ _ _, hR _⟩
theorem chars_make (A : Option Addr) (n c : Nat) (w : World) : Calls Tryd.prog 66 #[.slice A n c] w fun e w' => e = .returned (.func (.func 74) #[] #[.pointer (some ⟨w.heap.size, 0, none⟩)]) ∧ w' = w.alloc (.cells #[.slice A n c] 22) := by
  go_enter Tryd.func66, Tryd.ntmps66
  go_wp2
  go_ret
  exact ⟨rfl, rfl⟩
theorem units_make (A : Option Addr) (n c : Nat) (tab : Int) (w : World) : Calls Tryd.prog 52 #[.slice A n c, .int .i64 tab] w fun e w' => e = .returned (.func (.func 65) #[] #[.pointer (some ⟨w.heap.size, 0, none⟩), .pointer (some ⟨w.heap.size + 1, 0, none⟩)]) ∧ w' = (w.alloc (.cells #[.slice A n c] 22)).alloc (boxI tab) := by
  go_enter Tryd.func52, Tryd.ntmps52
  go_wp2
  go_ret
  exact ⟨rfl, rfl⟩
theorem rows_make (A : Option Addr) (n c : Nat) (to_ width tab : Int) (wrap : Bool) (w : World) : Calls Tryd.prog 35 #[.slice A n c, .int .i64 to_, .int .i64 width, .int .i64 tab, .bool wrap] w fun e w' =>
    e = .returned (.func (.func 50) #[] #[.pointer (some ⟨w.heap.size + 2, 0, none⟩), .pointer (some ⟨w.heap.size, 0, none⟩), .pointer (some ⟨w.heap.size + 3, 0, none⟩), .pointer (some ⟨w.heap.size + 4, 0, none⟩), .pointer (some ⟨w.heap.size + 1, 0, none⟩)]) ∧
      w' = ((((w.alloc (.cells #[.slice A n c] 22)).alloc (boxI to_)).alloc (boxI width)).alloc (boxI tab)).alloc (.cells #[.bool wrap] 4) := by
  go_enter Tryd.func35, Tryd.ntmps35
  go_wp2
  go_ret
  exact ⟨rfl, rfl⟩
end Go.Proofs.YtppjgofjjcdcdaaDoor

/- layout.units: the iterator hands its units to a consumer. -/
namespace Go.Proofs.YtppjgofjjcdcdaaDoor
open PLayoutRows
open Go.RowKit Go.Proofs.YtppjgofjjcdcdaaDoorW.PrintWords
attribute [local go_sem] Oper.semAt_some
/-- The loop over the characters, as a consumer of characters. -/
def cons3 (c2 : Cons Tryd.prog Unt) (r : Rec) (l3 by_ bt bc : Nat) (tab : Int) (items : List Chr) (lo : Nat) (hps : r.params.size = 1) (h2 : c2.lo ≤ lo) (hby : by_ < lo) (hbt : bt < lo) (hb3 : c2.base ≤ l3) (hbc : c2.base ≤ bc)
    (hround : ∀ (xs : List Chr) (x : Chr) (O2 : Nat → Prop) (W : World), xs ++ [x] <+: items → c2.J (unitsC tab xs).1 O2 W → St3 c2 r l3 by_ bt bc tab .ready none O2 W (unitsC tab xs).2 →
      Yields Tryd.prog r l3 #[chrV x] W
        (fun W' => ∃ O', c2.J (unitsC tab (xs ++ [x])).1 O' W' ∧ St3 c2 r l3 by_ bt bc tab .ready none O' W' (unitsC tab (xs ++ [x])).2 ∧ Step (fun b => O2 b ∨ (b = l3 ∨ b = bc)) (fun b => O' b ∨ (b = l3 ∨ b = bc)) W W')
        (fun c W' => c = .ret ∧ ∃ O' ys, ys <+: c2.items ∧ c2.D ys O' W' ∧ (∃ col', St3 c2 r l3 by_ bt bc tab .done (some .ret) O' W' col') ∧ Step (fun b => O2 b ∨ (b = l3 ∨ b = bc)) (fun b => O' b ∨ (b = l3 ∨ b = bc)) W W')) :
    Cons Tryd.prog Chr where
  r := r
  l := l3
  lo := lo
  base := c2.base
  stop := .ret
  items := items
  J xs O W := ∃ O2, O = (fun b => O2 b ∨ (b = l3 ∨ b = bc)) ∧ c2.J (unitsC tab xs).1 O2 W ∧ St3 c2 r l3 by_ bt bc tab .ready none O2 W (unitsC tab xs).2
  D _ O W := ∃ O2 ys, O = (fun b => O2 b ∨ (b = l3 ∨ b = bc)) ∧ ys <+: c2.items ∧ c2.D ys O2 W ∧ ∃ col, St3 c2 r l3 by_ bt bc tab .done (some .ret) O2 W col
  Rep x a _ _ := a = #[chrV x]
  ready := by
    rintro xs O W ⟨O2, rfl, hJ, st⟩
    exact ⟨st.lrec, .inr (.inl rfl)⟩
  done := by
    rintro xs O W ⟨O2, ys, rfl, _, hD, col, st⟩
    exact ⟨st.lrec, .inr (.inl rfl)⟩
  own := by
    rintro xs O W ⟨O2, rfl, hJ, st⟩ b (h | rfl | rfl)
    · exact c2.own hJ b h
    · exact hb3
    · exact hbc
  ownD := by
    rintro xs O W ⟨O2, ys, rfl, _, hD, col, st⟩ b (h | rfl | rfl)
    · exact c2.ownD hD b h
    · exact hb3
    · exact hbc
  stable := by
    rintro xs O W W' T ⟨O2, rfl, hJ, st⟩ hf hT
    have hl := fun b (hb : b < W.heap.size) (h : T b) => (hT b hb h)
    have n1 : ¬ T l3 := fun h => (hT _ (lt_of_block st.lrec) h).1 (.inr (.inl rfl))
    have n2 : ¬ T bc := fun h => (hT _ (lt_of_block st.col) h).1 (.inr (.inr rfl))
    have n3 : ¬ T by_ := fun h => by have := (hT _ (lt_of_block st.y) h).2; omega
    have n4 : ¬ T bt := fun h => by have := (hT _ (lt_of_block st.t) h).2; omega
    exact ⟨O2, rfl, c2.stable hJ hf (fun b hb h => ⟨fun h2 => (hT b hb h).1 (.inl h2), Nat.le_trans h2 (hT b hb h).2⟩), st.fr hf n1 n2 n3 n4⟩
  stableD := by
    rintro xs O W W' T ⟨O2, ys, rfl, hys, hD, col, st⟩ hf hT
    have n1 : ¬ T l3 := fun h => (hT _ (lt_of_block st.lrec) h).1 (.inr (.inl rfl))
    have n2 : ¬ T bc := fun h => (hT _ (lt_of_block st.col) h).1 (.inr (.inr rfl))
    have n3 : ¬ T by_ := fun h => by have := (hT _ (lt_of_block st.y) h).2; omega
    have n4 : ¬ T bt := fun h => by have := (hT _ (lt_of_block st.t) h).2; omega
    exact ⟨O2, ys, rfl, hys, c2.stableD hD hf (fun b hb h => ⟨fun h2 => (hT b hb h).1 (.inl h2), Nat.le_trans h2 (hT b hb h).2⟩), col, st.fr hf n1 n2 n3 n4⟩
  lt := by
    rintro xs O W ⟨O2, rfl, hJ, st⟩ b (h | rfl | rfl)
    · exact c2.lt hJ h
    · exact lt_of_block st.lrec
    · exact lt_of_block st.col
  args := by
    rintro x a W O rfl
    rw [hps]; rfl
  step := by
    rintro xs x a O W hi ⟨O2, rfl, hJ, st⟩ rfl
    refine (hround xs x O2 W hi hJ st).mono ?_ ?_
    · rintro W' ⟨O', hJ', st', hS⟩
      exact ⟨_, ⟨O', rfl, hJ', st'⟩, hS⟩
    · rintro c W' ⟨_, O', ys, hys, hD, ⟨col, st'⟩, hS⟩
      exact ⟨_, ⟨O', ys, rfl, hys, hD, col, st'⟩, hS⟩
set_option maxRecDepth 100000
set_option maxHeartbeats 2000000 in
theorem units_iter (c2 : Cons Tryd.prog Unt) (hrep : ∀ u a W O, UntRep u a W O → c2.Rep u a W O) (bl bt : Nat) (A : Option Addr) (cap : Nat) (l : List Part) (tab : Int) (hit : c2.items = (unitsC tab (charsP l)).1) (w0 W : World) (O0 : Nat → Prop)
    (hJ : c2.J [] O0 W) (hlo : c2.lo ≤ W.heap.size) (hbl : W.heap[bl]? = some (.cells #[.slice A l.length cap] 22 (0, 0))) (hbt : W.heap[bt]? = some (boxI tab)) (nbt : ¬ O0 bt)
    (hd : Kd.C k55 w0 A l.length l) (hb : Below w0.heap.size w0 W) (hbase : c2.base = w0.heap.size)
    (hpos : ∀ p ∈ l, 0 ≤ p.f1 ∧ p.f1 + p.f3.size ≤ 4611686018427387904) (hlen : l.length ≤ 1000000000) (hcs : (charsP l).length ≤ 1000000000000) (ht1 : 1 ≤ tab) (ht2 : tab ≤ 64) :
    CallsIn Fence.wide 0 Tryd.prog 65 #[.func (.yield c2.l) #[] #[], .pointer (some ⟨bl, 0, none⟩), .pointer (some ⟨bt, 0, none⟩)] W fun e W' => (∃ v, e = .returned v) ∧ Feeds c2 O0 W W' := by
  have hc0 : W.cell? ⟨bl, 0, none⟩ = some (.slice A l.length cap) := cell_row hbl rfl
  have n0 : bl < W.heap.size := lt_of_block hbl
  have n1 : bt < W.heap.size := lt_of_block hbt
  have HJ := Lib.hid hJ
  have HD := Lib.hid hd
  have HB := Lib.hid hb
  have HP := Lib.hid hpos
  have HBA := Lib.hid hbase
  have HREP := Lib.hid hrep
  have HIT := Lib.hid hit
  have HBL := Lib.hid hbl
  have HBT := Lib.hid hbt
  have HNB := Lib.hid nbt
  have hmk : ∀ w, CallsIn Fence.wide 0 Tryd.prog 66 #[.slice A l.length cap] w fun e w' => e = .returned (.func (.func 74) #[] #[.pointer (some ⟨w.heap.size, 0, none⟩)]) ∧ w' = w.alloc (.cells #[.slice A l.length cap] 22) := fun w => callsIn_wide.2 (chars_make A l.length cap w)
  have HMK := Lib.hid hmk
  clear hJ hd hb hpos hbl hbt nbt hbase hrep hit hmk
  refine callsIn_of_wp_marks Tryd.func65 rfl trivial ?_ rfl
  simp only [Tryd.ntmps65, List.size_toArray, List.length_cons, List.length_nil, Nat.reduceAdd, Nat.reduceSub, Array.replicate_succ, Array.replicate_zero, List.push_toArray, List.append_toArray, List.nil_append, List.cons_append]
  gi_wp2_with fail
  refine ⟨trivial, rfl, (HMK.out _).mono ?_⟩
  rintro e w' ⟨rfl, rfl⟩
  gi_wp2_with fail
  generalize hW5 : ((W.alloc (.cells #[.func (.yield c2.l) #[] #[]] 100)).alloc (.cells #[.int .i64 0] 3)).alloc (.cells #[.slice A l.length cap] 22) = W5
  have s5 : W5.heap.size = W.heap.size + 3 := by rw [← hW5]; simp
  have f5 : Fr Non W W5 := by rw [← hW5]; exact (((Fr.refl _ _).alloc _).alloc _).alloc _
  have b1 : W5.heap[W.heap.size]? = some (boxY c2.l 100) := by rw [← hW5]; exact hd_alloc (hd_alloc (World.alloc_heap_new _ _))
  have b2 : W5.heap[W.heap.size + 1]? = some (boxI 0) := by
    rw [← hW5]
    have h := World.alloc_heap_new (W.alloc (.cells #[.func (.yield c2.l) #[] #[]] 100)) (.cells #[.int .i64 0] 3)
    rw [World.size_alloc] at h
    exact hd_alloc h
  have b3 : W5.heap[W.heap.size + 2]? = some (.cells #[.slice A l.length cap] 22 (0, 0)) := by
    rw [← hW5]
    have h := World.alloc_heap_new ((W.alloc (.cells #[.func (.yield c2.l) #[] #[]] 100)).alloc (.cells #[.int .i64 0] 3)) (.cells #[.slice A l.length cap] 22)
    rw [World.size_alloc, World.size_alloc] at h
    exact h
  clear hW5
  refine range_law (gf := 74) (lb := #[.pointer (some ⟨W.heap.size + 2, 0, none⟩)]) rfl (enters_of Tryd.func74 (by kernel_rfl) rfl) ?_
  intro fn
  rw [s5]
  generalize hr : Rec.mk fn _ _ _ _ _ = r
  generalize hW6 : (W5.alloc (.deferred (some []))).alloc (r.at .ready none) = W6
  have s6 : W6.heap.size = W.heap.size + 5 := by rw [← hW6]; simp [s5]
  have f6 : Fr Non W5 W6 := by rw [← hW6]; exact ((Fr.refl _ _).alloc _).alloc _
  have b4 : W6.heap[W.heap.size + 3]? = some (.deferred (some [])) := by
    rw [← hW6, ← s5]; exact hd_alloc (World.alloc_heap_new _ _)
  have b5 : W6.heap[W.heap.size + 4]? = some (r.at .ready none) := by
    rw [← hW6]
    have h := World.alloc_heap_new (W5.alloc (.deferred (some []))) (r.at .ready none)
    rw [World.size_alloc, s5] at h
    exact h
  clear hW6
  have hOlt : ∀ b, O0 b → b < W.heap.size := fun b h => c2.lt HJ.out h
  have f56 : Fr Non W W6 := f5.trans f6
  have st : St3 c2 r (W.heap.size + 4) W.heap.size bt (W.heap.size + 1) tab .ready none O0 W6 (unitsC tab []).2 :=
    ⟨b5, fun h => by have := hOlt _ h; omega, fun h => by have := hOlt _ h; omega, fun h => by have := hOlt _ h; omega, HNB.out, f6.at b2 id, f6.at b1 id, f56.at HBT.out id⟩
  have hJ6 : c2.J (unitsC tab []).1 O0 W6 := c2.stable HJ.out f56 (fun _ _ h => h.elim)
  have hround : ∀ (xs : List Chr) (x : Chr) (O2 : Nat → Prop) (W' : World), xs ++ [x] <+: charsP l → c2.J (unitsC tab xs).1 O2 W' → St3 c2 r (W.heap.size + 4) W.heap.size bt (W.heap.size + 1) tab .ready none O2 W' (unitsC tab xs).2 →
      Yields Tryd.prog r (W.heap.size + 4) #[chrV x] W'
        (fun W1 => ∃ O', c2.J (unitsC tab (xs ++ [x])).1 O' W1 ∧ St3 c2 r (W.heap.size + 4) W.heap.size bt (W.heap.size + 1) tab .ready none O' W1 (unitsC tab (xs ++ [x])).2 ∧ Step (fun b => O2 b ∨ (b = W.heap.size + 4 ∨ b = W.heap.size + 1)) (fun b => O' b ∨ (b = W.heap.size + 4 ∨ b = W.heap.size + 1)) W' W1)
        (fun c W1 => c = .ret ∧ ∃ O' ys, ys <+: c2.items ∧ c2.D ys O' W1 ∧ (∃ col', St3 c2 r (W.heap.size + 4) W.heap.size bt (W.heap.size + 1) tab .done (some .ret) O' W1 col') ∧ Step (fun b => O2 b ∨ (b = W.heap.size + 4 ∨ b = W.heap.size + 1)) (fun b => O' b ∨ (b = W.heap.size + 4 ∨ b = W.heap.size + 1)) W' W1) := by
    intro xs x O2 W' hi hJ' st'
    have hb := col_bound tab ht1 ht2 xs
    have hl := hi.length_le
    rw [List.length_append, List.length_cons, List.length_nil] at hl
    have hx : unitsC tab (xs ++ [x]) = _ := unitsC_snoc tab xs x
    have hp : (unitsC tab (xs ++ [x])).1 <+: c2.items := by rw [HIT.out]; exact unitsC_pre tab hi
    have key := round3 c2 HREP.out r fn (W.heap.size + 4) W.heap.size bt (W.heap.size + 1) (W.heap.size + 3) tab (unitsC tab xs).2 (unitsC tab xs).1 (unitsC tab (xs ++ [x])).1 x O2 W' hr hJ' st' ht1 ht2 hb.1 (by omega) (by rw [hx]) hp (by omega) (by omega) (by omega)
    have e2 : (oneU tab (unitsC tab xs).2 x).2 = (unitsC tab (xs ++ [x])).2 := by rw [hx]
    rw [e2] at key
    exact key
  have hps : r.params.size = 1 := by rw [← hr]; rfl
  have hstop : (Rec.mk fn (#[] : Array Value) #[10] .skip .skip 0).fn = fn := rfl
  clear hstop
  clear hr
  have hc := chars_iter (cons3 c2 r (W.heap.size + 4) W.heap.size bt (W.heap.size + 1) tab (charsP l) (W.heap.size + 5) hps (by omega) (by omega) (by omega) (by have := HB.out.size; rw [HBA.out]; omega) (by have := HB.out.size; rw [HBA.out]; omega) hround)
    (fun x W O => rfl) (W.heap.size + 2) A cap l rfl w0 W6 _ ⟨O0, rfl, hJ6, st⟩ (by show W.heap.size + 5 ≤ _; omega) (f6.at b3 id) HD.out (HB.out.trans (f56.below (HB.out.size) (fun b h => id))) HBA.out HP.out hlen
  refine (callsIn_wide.1 hc).mono ?_
  rintro e W7 ⟨hv, O', hS, hJD⟩
  refine ⟨hv, ?_⟩
  have bD : W7.heap[W.heap.size + 3]? = some (.deferred (some [])) := hS.at b4 (by rintro (h | h | h); exact absurd (hOlt _ h) (by omega); omega; omega)
  have nD : ¬ O' (W.heap.size + 3) := hS.not (lt_of_block b4) (by rintro (h | h | h); exact absurd (hOlt _ h) (by omega); omega; omega)
  have fin : ∀ (o : Obj) (Wf : World), (W7.putObj (W.heap.size + 4) o).putObj (W.heap.size + 3) (.deferred none) = Wf → Fr (fun b => b = W.heap.size + 4 ∨ b = W.heap.size + 3) W7 Wf ∧ ∀ O2, (∀ b, O2 b → O' b) → Step O0 O2 W Wf := by
    rintro o Wf rfl
    have g : Fr (fun b => b = W.heap.size + 4 ∨ b = W.heap.size + 3) W7 ((W7.putObj (W.heap.size + 4) o).putObj (W.heap.size + 3) (.deferred none)) := ((Fr.refl _ _).putObj _ _ (fun _ => .inl rfl)).putObj _ _ (fun _ => .inr rfl)
    refine ⟨g, fun O2 h2 => ⟨?_, ?_⟩⟩
    · refine (((f56.mono (fun _ _ h => h.elim)).then hS.1 ?_).then g ?_)
      · rintro b hb (h | h | h)
        · exact h
        · omega
        · omega
      · rintro b hb (h | h)
        · omega
        · omega
    · intro b h
      rcases hS.2 b (h2 b h) with (h1 | h1 | h1) | h1
      · exact .inl h1
      · omega
      · omega
      · exact .inr (by omega)
  rcases hJD with ⟨O2, hO, hJ7, st7⟩ | ⟨zs, hzs, O2, ys, hO, hys, hD7, col7, st7⟩
  · refine .inl ⟨st7.lrec, ?_⟩
    gi_wp2
    refine ends_mark rfl (ho_other bD (by omega)) (fun v => ⟨⟨v, rfl⟩, ?_⟩)
    obtain ⟨g, hst⟩ := fin _ _ rfl
    refine ⟨O2, hst O2 (fun b h => by rw [hO]; exact .inl h), .inl ?_⟩
    have h := c2.stable hJ7 g (fun b _ h => by
      rcases h with h | h
      · rw [h]; exact ⟨st7.n1, by omega⟩
      · rw [h]; exact ⟨fun h2 => nD (by rw [hO]; exact .inl h2), by omega⟩)
    rw [HIT.out]
    exact h
  · refine .inr ⟨_, st7.lrec, ?_⟩
    gi_wp2
    refine ends_mark rfl (ho_other bD (by omega)) (fun v => ⟨⟨v, rfl⟩, ?_⟩)
    obtain ⟨g, hst⟩ := fin _ _ rfl
    refine ⟨O2, hst O2 (fun b h => by rw [hO]; exact .inl h), .inr ⟨ys, hys, ?_⟩⟩
    exact c2.stableD hD7 g (fun b _ h => by
      rcases h with h | h
      · rw [h]; exact ⟨st7.n1, by omega⟩
      · rw [h]; exact ⟨fun h2 => nD (by rw [hO]; exact .inl h2), by omega⟩)
end Go.Proofs.YtppjgofjjcdcdaaDoor
