/- layout.Rows. -/
import Derived.Test.YtppjgofjjcdcdaaDoorJD
import Derived.Test.YtppjgofjjcdcdaaDoorShelf
import Derived.Shelf.Unicode.ValidAny
set_option linter.unusedVariables false
set_option linter.unusedSimpArgs false
/- layout.rows: the iterator hands its rows to a consumer. -/
namespace Go.Proofs.YtppjgofjjcdcdaaDoor
open PLayoutRows
open Go.RowKit Go.Proofs.YtppjgofjjcdcdaaDoorW.PrintWords
attribute [local go_sem] Oper.semAt_some
theorem rowsE_pre (width : Nat) (wrap : Bool) (to_ : Int) {us vs : List Unt} (h : us <+: vs) : (rowsS width wrap us).rows <+: rowsE width wrap to_ vs :=
  List.IsPrefix.trans (rowsS_pre width wrap h) (List.prefix_append _ _)
/-- The loop over the units, as a consumer of units. -/
def cons2 (c1 : ConsR Tryd.prog) (r : Rec) (l2 fB oB yB bw br width : Nat) (wrap : Bool) (to_ : Int) (items : List Unt) (lo : Nat) (hps : r.params.size = 1) (h1 : c1.lo ≤ lo) (hy : yB < lo) (hbw : bw < lo) (hbr : br < lo) (hl : c1.base ≤ l2) (hll : lo ≤ l2) (hit : c1.items = rowsE width wrap to_ items)
    (hround : ∀ (us : List Unt) (u : Unt) (O1 : Nat → Prop) (p g q : Nat) (W : World) (A : Option Addr) (n c : Nat), us ++ [u] <+: items → c1.J (rowsS width wrap us).rows O1 W → St2 c1 r l2 fB oB yB bw br width wrap .ready none p g q (rowsS width wrap us).x (rowsS width wrap us).over O1 W →
      n = u.cells.length → n ≤ 2 → ((u.cells = [] ∧ A = none) ∨ ∃ b, A = some ⟨b, 0, none⟩ ∧ W.heap[b]? = some (cellB u.cells) ∧ ¬ OT l2 fB oB p g q O1 b) →
      Yields Tryd.prog r l2 #[.agg #[.slice A n c, .int .i64 u.pos, .bool u.feed]] W
        (fun W' => ∃ O', c1.J (rowsS width wrap (us ++ [u])).rows O' W' ∧ ∃ p' g' q', St2 c1 r l2 fB oB yB bw br width wrap .ready none p' g' q' (rowsS width wrap (us ++ [u])).x (rowsS width wrap (us ++ [u])).over O' W' ∧ Step (OT l2 fB oB p g q O1) (OT l2 fB oB p' g' q' O') W W')
        (fun cd W' => cd = .ret ∧ ∃ O' zs, zs <+: c1.items ∧ c1.D zs O' W' ∧ W'.heap[l2]? = some (r.at .done (some .ret)) ∧ ¬ O' l2 ∧ Step (OT l2 fB oB p g q O1) (OL l2 O') W W')) :
    Cons Tryd.prog Unt where
  r := r
  l := l2
  lo := lo
  base := c1.base
  stop := .ret
  items := items
  J us O W := ∃ O1 p g q, O = OT l2 fB oB p g q O1 ∧ c1.J (rowsS width wrap us).rows O1 W ∧ St2 c1 r l2 fB oB yB bw br width wrap .ready none p g q (rowsS width wrap us).x (rowsS width wrap us).over O1 W
  D _ O W := ∃ O1 zs, O = OL l2 O1 ∧ zs <+: c1.items ∧ c1.D zs O1 W ∧ W.heap[l2]? = some (r.at .done (some .ret)) ∧ ¬ O1 l2
  Rep := UntRep
  ready := by
    rintro xs O W ⟨O1, p, g, q, rfl, hJ, st⟩
    exact ⟨st.lrec, .inr T2.l⟩
  done := by
    rintro xs O W ⟨O1, zs, rfl, _, hD, hl, _⟩
    exact ⟨hl, .inr rfl⟩
  own := by
    rintro xs O W ⟨O1, p, g, q, rfl, hJ, st⟩ b (h | h)
    · exact c1.own hJ b h
    · exact (st.own b h).2.2.1
  ownD := by
    rintro xs O W ⟨O1, zs, rfl, _, hD, hl, _⟩ b (h | rfl)
    · exact c1.ownD hD b h
    · assumption
  stable := by
    rintro xs O W W' T ⟨O1, p, g, q, rfl, hJ, st⟩ hf hT
    have n2 : ∀ b, b < W.heap.size → T2 l2 fB oB p g q b → ¬ T b := fun b hb h h' => (hT b hb h').1 (.inr h)
    have n3 : ∀ b, b < W.heap.size → b < lo → ¬ T b := fun b hb h h' => by have := (hT b hb h').2; omega
    exact ⟨O1, p, g, q, rfl, c1.stable hJ hf (fun b hb h => ⟨fun h2 => (hT b hb h).1 (.inl h2), Nat.le_trans h1 (hT b hb h).2⟩),
      ⟨hf.at st.lrec (n2 _ (lt_of_block st.lrec) T2.l), hf.at st.f (n2 _ (lt_of_block st.f) T2.f), hf.at st.o (n2 _ (lt_of_block st.o) T2.o),
        ⟨hf.at st.fil.1 (n2 _ (lt_of_block st.fil.1) T2.p), hf.at st.fil.2.1 (n2 _ (lt_of_block st.fil.2.1) T2.g), hf.at st.fil.2.2 (n2 _ (lt_of_block st.fil.2.2) T2.q)⟩,
        hf.at st.y (n3 _ (lt_of_block st.y) hy), hf.at st.w (n3 _ (lt_of_block st.w) hbw), hf.at st.b (n3 _ (lt_of_block st.b) hbr), st.own, st.ny, st.nw, st.nb, st.ok⟩⟩
  stableD := by
    rintro xs O W W' T ⟨O1, zs, rfl, hz, hD, hl, hn⟩ hf hT
    have n2 : ¬ T l2 := fun h => (hT _ (lt_of_block hl) h).1 (.inr rfl)
    exact ⟨O1, zs, rfl, hz, c1.stableD hD hf (fun b hb h => ⟨fun h2 => (hT b hb h).1 (.inl h2), Nat.le_trans h1 (hT b hb h).2⟩), hf.at hl n2, hn⟩
  lt := by
    rintro xs O W ⟨O1, p, g, q, rfl, hJ, st⟩ b (h | rfl | rfl | rfl | rfl | rfl | rfl)
    · exact c1.lt hJ h
    · exact lt_of_block st.lrec
    · exact lt_of_block st.f
    · exact lt_of_block st.o
    · exact lt_of_block st.fil.1
    · exact lt_of_block st.fil.2.1
    · exact lt_of_block st.fil.2.2
  args := by
    rintro x a W O ⟨A, n, c, rfl, _⟩
    rw [hps]; rfl
  step := by
    rintro xs x a O W hi ⟨O1, p, g, q, rfl, hJ, st⟩ ⟨A, n, c, rfl, hn, hn2, hc⟩
    refine (hround xs x O1 p g q W A n c hi hJ st hn hn2 hc).mono ?_ ?_
    · rintro W' ⟨O', hJ', p', g', q', st', hS⟩
      exact ⟨_, ⟨O', p', g', q', rfl, hJ', st'⟩, hS⟩
    · rintro c W' ⟨_, O', zs, hz, hD, hl, hn, hS⟩
      exact ⟨_, ⟨O', zs, rfl, hz, hD, hl, hn⟩, hS⟩
set_option maxRecDepth 100000
set_option maxHeartbeats 2000000 in
theorem rows_iter (c1 : ConsR Tryd.prog) (bw bl btab br bto : Nat) (A : Option Addr) (cap : Nat) (l : List Part) (to_ tab : Int) (width : Nat) (wrap : Bool) (hit : c1.items = rowsE width wrap to_ (unitsC tab (charsP l)).1) (w0 W : World) (O1 : Nat → Prop)
    (hJ : c1.J [] O1 W) (hlo : c1.lo ≤ W.heap.size) (hba : c1.base ≤ W.heap.size) (hbl : W.heap[bl]? = some (.cells #[.slice A l.length cap] 22 (0, 0))) (hbw : W.heap[bw]? = some (boxI width)) (hbt : W.heap[btab]? = some (boxI tab))
    (hbr : W.heap[br]? = some (boxB wrap)) (hbo : W.heap[bto]? = some (boxI to_)) (nbw : ¬ O1 bw) (nbr : ¬ O1 br) (nbo : ¬ O1 bto)
    (hd : Kd.C k55 w0 A l.length l) (hb : Below w0.heap.size w0 W) (hbase : c1.base = w0.heap.size)
    (hpos : ∀ p ∈ l, 0 ≤ p.f1 ∧ p.f1 + p.f3.size ≤ 4611686018427387904) (hlen : l.length ≤ 1000000000) (hcs : (charsP l).length ≤ 1000000000000) (ht1 : 1 ≤ tab) (ht2 : tab ≤ 64) (hw0 : 4 ≤ width) (hw : width ≤ 1000000) :
    CallsIn Fence.wide 0 Tryd.prog 50 #[.func (.yield c1.l) #[] #[], .pointer (some ⟨bw, 0, none⟩), .pointer (some ⟨bl, 0, none⟩), .pointer (some ⟨btab, 0, none⟩), .pointer (some ⟨br, 0, none⟩), .pointer (some ⟨bto, 0, none⟩)] W fun e W' => (∃ v, e = .returned v) ∧ FeedsR c1 O1 W W' := by
  have y1 : W.cell? ⟨bl, 0, none⟩ = some (.slice A l.length cap) := cell_row hbl rfl
  have y2 : W.cell? ⟨bw, 0, none⟩ = some (.int .i64 width) := cell_row hbw rfl
  have y3 : W.cell? ⟨btab, 0, none⟩ = some (.int .i64 tab) := cell_row hbt rfl
  have n0 : bl < W.heap.size := lt_of_block hbl
  have n1 : bw < W.heap.size := lt_of_block hbw
  have n2 : btab < W.heap.size := lt_of_block hbt
  have n3 : br < W.heap.size := lt_of_block hbr
  have n4 : bto < W.heap.size := lt_of_block hbo
  have HJ := Lib.hid hJ
  have HD := Lib.hid hd
  have HB := Lib.hid hb
  have HP := Lib.hid hpos
  have HBA := Lib.hid hbase
  have HIT := Lib.hid hit
  have HBL := Lib.hid hbl
  have HBW := Lib.hid hbw
  have HBR := Lib.hid hbr
  have HBO := Lib.hid hbo
  have HBT := Lib.hid hbt
  have HN := Lib.hid (And.intro nbw (And.intro nbr nbo))
  have HF : ∀ w, CallsIn Fence.wide 0 Tryd.prog 51 #[.int .i64 width] w _ := fun w => callsIn_wide.2 (fill_any width w (by omega) hw)
  have HM : ∀ w, CallsIn Fence.wide 0 Tryd.prog 52 #[.slice A l.length cap, .int .i64 tab] w _ := fun w => callsIn_wide.2 (units_make A l.length cap tab w)
  have HFI := Lib.hid HF
  have HMK := Lib.hid HM
  clear hJ hd hb hpos hbase hit hbl hbw hbr hbo hbt nbw nbr nbo HF HM
  refine callsIn_of_wp_marks Tryd.func50 rfl trivial ?_ rfl
  simp only [Tryd.ntmps50, List.size_toArray, List.length_cons, List.length_nil, Nat.reduceAdd, Nat.reduceSub, Array.replicate_succ, Array.replicate_zero, List.push_toArray, List.append_toArray, List.nil_append, List.cons_append]
  gi_wp2_with fail
  refine ⟨trivial, rfl, (HFI.out _).mono ?_⟩
  rintro e w1 ⟨p, g, q, rfl, hfil, hp, hg, hq, d1, d2, d3, hfr⟩
  have hfw : Fr Non W w1 := ((Fr.refl _ _).alloc _).trans hfr
  have hy1 : w1.heap[W.heap.size]? = some (boxY c1.l 89) := hfr.at (World.alloc_heap_new _ _) id
  have s1 : W.heap.size + 1 ≤ w1.heap.size := by have := hfr.size; simpa using this
  have p1 : W.heap.size + 1 ≤ p := by simpa using hp
  have g1 : W.heap.size + 1 ≤ g := by simpa using hg
  have q1 : W.heap.size + 1 ≤ q := by simpa using hq
  have y1' : w1.cell? ⟨bl, 0, none⟩ = some (.slice A l.length cap) := cell_row (hfw.at HBL.out id) rfl
  have y3' : w1.cell? ⟨btab, 0, none⟩ = some (.int .i64 tab) := cell_row (hfw.at HBT.out id) rfl
  have n0' : bl < w1.heap.size := by omega
  have n2' : btab < w1.heap.size := by omega
  have HFW := Lib.hid hfw
  have HY1 := Lib.hid hy1
  have HFIL := Lib.hid hfil
  clear hfr hfw hy1 hfil hp hg hq y1 y2 y3
  gi_wp2_with fail
  refine ⟨trivial, rfl, (HMK.out _).mono ?_⟩
  rintro e w2 ⟨rfl, rfl⟩
  gi_wp2_with fail
  have hOlt : ∀ b, O1 b → b < W.heap.size := fun b h => c1.lt HJ.out h
  generalize hW5 : (((w1.alloc (.cells #[.pointer (some ⟨p, 0, none⟩)] 90)).alloc (.cells #[.bool false] 4)).alloc (.cells #[.slice A l.length cap] 22)).alloc (boxI tab) = W5
  have s5 : W5.heap.size = w1.heap.size + 4 := by rw [← hW5]; simp
  have f5 : Fr Non w1 W5 := by rw [← hW5]; exact ((((Fr.refl _ _).alloc _).alloc _).alloc _).alloc _
  have b1 : W5.heap[w1.heap.size]? = some (boxP p) := by rw [← hW5]; exact hd_alloc (hd_alloc (hd_alloc (World.alloc_heap_new _ _)))
  have b2 : W5.heap[w1.heap.size + 1]? = some (boxB false) := by
    rw [← hW5]
    have h := World.alloc_heap_new (w1.alloc (.cells #[.pointer (some ⟨p, 0, none⟩)] 90)) (.cells #[.bool false] 4)
    rw [World.size_alloc] at h
    exact hd_alloc (hd_alloc h)
  have b3 : W5.heap[w1.heap.size + 2]? = some (.cells #[.slice A l.length cap] 22 (0, 0)) := by
    rw [← hW5]
    have h := World.alloc_heap_new ((w1.alloc (.cells #[.pointer (some ⟨p, 0, none⟩)] 90)).alloc (.cells #[.bool false] 4)) (.cells #[.slice A l.length cap] 22)
    rw [World.size_alloc, World.size_alloc] at h
    exact hd_alloc h
  have b4 : W5.heap[w1.heap.size + 3]? = some (boxI tab) := by
    rw [← hW5]
    have h := World.alloc_heap_new (((w1.alloc (.cells #[.pointer (some ⟨p, 0, none⟩)] 90)).alloc (.cells #[.bool false] 4)).alloc (.cells #[.slice A l.length cap] 22)) (boxI tab)
    rw [World.size_alloc, World.size_alloc, World.size_alloc] at h
    exact h
  clear hW5
  refine range_law (gf := 65) (lb := #[.pointer (some ⟨w1.heap.size + 2, 0, none⟩), .pointer (some ⟨w1.heap.size + 3, 0, none⟩)]) rfl (enters_of Tryd.func65 (by kernel_rfl) rfl) ?_
  intro fn
  rw [s5]
  generalize hr : Rec.mk fn _ _ _ _ _ = r
  generalize hW6 : (W5.alloc (.deferred (some []))).alloc (r.at .ready none) = W6
  have s6 : W6.heap.size = w1.heap.size + 6 := by rw [← hW6]; simp [s5]
  have f6 : Fr Non W5 W6 := by rw [← hW6]; exact ((Fr.refl _ _).alloc _).alloc _
  have bD6 : W6.heap[w1.heap.size + 4]? = some (.deferred (some [])) := by
    rw [← hW6, ← s5]; exact hd_alloc (World.alloc_heap_new _ _)
  have b6 : W6.heap[w1.heap.size + 5]? = some (r.at .ready none) := by
    rw [← hW6]
    have h := World.alloc_heap_new (W5.alloc (.deferred (some []))) (r.at .ready none)
    rw [World.size_alloc, s5] at h
    exact h
  clear hW6
  have f16 : Fr Non w1 W6 := f5.trans f6
  have fW6 : Fr Non W W6 := HFW.out.trans f16
  have pl : p < w1.heap.size := lt_of_block HFIL.out.1
  have gl : g < w1.heap.size := lt_of_block HFIL.out.2.1
  have ql : q < w1.heap.size := lt_of_block HFIL.out.2.2
  have up : ∀ b, W.heap.size + 1 ≤ b → ¬ O1 b ∧ c1.lo ≤ b ∧ c1.base ≤ b ∧ b ≠ W.heap.size ∧ b ≠ bw ∧ b ≠ br := fun b hb => ⟨fun h => by have := hOlt b h; omega, by omega, by omega, by omega, by omega, by omega⟩
  have st : St2 c1 r (w1.heap.size + 5) w1.heap.size (w1.heap.size + 1) W.heap.size bw br width wrap .ready none p g q (rowsS width wrap []).x (rowsS width wrap []).over O1 W6 :=
    ⟨b6, f6.at b1 id, f6.at b2 id, ⟨f16.at HFIL.out.1 id, f16.at HFIL.out.2.1 id, f16.at HFIL.out.2.2 id⟩, f16.at HY1.out id, fW6.at HBW.out id, fW6.at HBR.out id, by
      rintro b (rfl | rfl | rfl | rfl | rfl | rfl)
      · exact up _ (by omega)
      · exact up _ (by omega)
      · exact up _ (by omega)
      · exact up _ p1
      · exact up _ g1
      · exact up _ q1, fun h => absurd (hOlt _ h) (Nat.lt_irrefl _), HN.out.1, HN.out.2.1, newFil_ok width (by omega)⟩
  have hJ6 : c1.J (rowsS width wrap []).rows O1 W6 := c1.stable HJ.out fW6 (fun _ _ h => h.elim)
  have hround : ∀ (us : List Unt) (u : Unt) (O1 : Nat → Prop) (p g q : Nat) (W' : World) (A : Option Addr) (n c : Nat), us ++ [u] <+: (unitsC tab (charsP l)).1 → c1.J (rowsS width wrap us).rows O1 W' → St2 c1 r (w1.heap.size + 5) w1.heap.size (w1.heap.size + 1) W.heap.size bw br width wrap .ready none p g q (rowsS width wrap us).x (rowsS width wrap us).over O1 W' →
      n = u.cells.length → n ≤ 2 → ((u.cells = [] ∧ A = none) ∨ ∃ b, A = some ⟨b, 0, none⟩ ∧ W'.heap[b]? = some (cellB u.cells) ∧ ¬ OT (w1.heap.size + 5) w1.heap.size (w1.heap.size + 1) p g q O1 b) →
      Yields Tryd.prog r (w1.heap.size + 5) #[.agg #[.slice A n c, .int .i64 u.pos, .bool u.feed]] W'
        (fun W2 => ∃ O', c1.J (rowsS width wrap (us ++ [u])).rows O' W2 ∧ ∃ p' g' q', St2 c1 r (w1.heap.size + 5) w1.heap.size (w1.heap.size + 1) W.heap.size bw br width wrap .ready none p' g' q' (rowsS width wrap (us ++ [u])).x (rowsS width wrap (us ++ [u])).over O' W2 ∧ Step (OT (w1.heap.size + 5) w1.heap.size (w1.heap.size + 1) p g q O1) (OT (w1.heap.size + 5) w1.heap.size (w1.heap.size + 1) p' g' q' O') W' W2)
        (fun cd W2 => cd = .ret ∧ ∃ O' zs, zs <+: c1.items ∧ c1.D zs O' W2 ∧ W2.heap[w1.heap.size + 5]? = some (r.at .done (some .ret)) ∧ ¬ O' (w1.heap.size + 5) ∧ Step (OT (w1.heap.size + 5) w1.heap.size (w1.heap.size + 1) p g q O1) (OL (w1.heap.size + 5) O') W' W2) := by
    intro us u O1 p g q W' A' n c hi hJ' st' hn hn2 hc
    have hS : rowsS width wrap (us ++ [u]) = _ := rowsS_snoc width wrap us u
    have hi' : (stepR width wrap (rowsS width wrap us) u).rows <+: c1.items := by
      rw [← hS, HIT.out]; exact rowsE_pre width wrap to_ hi
    have hl := lt_of_block st'.lrec
    have ol := st'.own _ T2.l
    rw [hS]
    exact round2 c1 r (w1.heap.size + 5) w1.heap.size (w1.heap.size + 1) W.heap.size bw br width wrap fn (w1.heap.size + 4) p g q (rowsS width wrap us) O1 W' u A' n c hr hJ' st' hw0 hw hn hn2 hc hi' (by omega) (by omega)
  have hps : r.params.size = 1 := by rw [← hr]; rfl
  clear hr
  have hT : ∀ b, OT (w1.heap.size + 5) w1.heap.size (w1.heap.size + 1) p g q O1 b → O1 b ∨ W.heap.size + 1 ≤ b := by
    rintro b (h | rfl | rfl | rfl | rfl | rfl | rfl)
    · exact .inl h
    · exact .inr (by omega)
    · exact .inr (by omega)
    · exact .inr (by omega)
    · exact .inr p1
    · exact .inr g1
    · exact .inr q1
  have nT : ∀ b, w1.heap.size + 2 ≤ b → b ≠ w1.heap.size + 5 → ¬ OT (w1.heap.size + 5) w1.heap.size (w1.heap.size + 1) p g q O1 b := by
    rintro b hb hb5 (h | rfl | rfl | rfl | rfl | rfl | rfl)
    · have := hOlt b h; omega
    · exact hb5 rfl
    · omega
    · omega
    · omega
    · omega
    · omega
  have hc := units_iter (cons2 c1 r (w1.heap.size + 5) w1.heap.size (w1.heap.size + 1) W.heap.size bw br width wrap to_ (unitsC tab (charsP l)).1 (W.heap.size + 1) hps (by omega) (by omega) (by omega) (by omega) (by omega) (by omega) HIT.out hround)
    (fun u a W O h => h) (w1.heap.size + 2) (w1.heap.size + 3) A cap l tab rfl w0 W6 _ ⟨O1, p, g, q, rfl, hJ6, st⟩ (by show W.heap.size + 1 ≤ _; omega) (f6.at b3 id) (f6.at b4 id) (nT _ (by omega) (by omega)) HD.out (HB.out.trans (fW6.below (HB.out.size) (fun b h => id))) HBA.out HP.out hlen hcs ht1 ht2
  refine (callsIn_wide.1 hc).mono ?_
  rintro e W7 ⟨hv, O', hS, hJD⟩
  refine ⟨hv, ?_⟩
  have bD : W7.heap[w1.heap.size + 4]? = some (.deferred (some [])) := hS.at bD6 (nT _ (by omega) (by omega))
  have nD : ¬ O' (w1.heap.size + 4) := hS.not (lt_of_block bD6) (nT _ (by omega) (by omega))
  have bT6 : W6.heap[bto]? = some (boxI to_) := fW6.at HBO.out id
  have nTo : ¬ OT (w1.heap.size + 5) w1.heap.size (w1.heap.size + 1) p g q O1 bto := fun h => (hT _ h).elim HN.out.2.2 (fun h => by omega)
  have bT : W7.heap[bto]? = some (boxI to_) := hS.at bT6 nTo
  have nT7 : ¬ O' bto := hS.not (lt_of_block bT6) nTo
  have s7 := hS.1.size
  have fW7 : Fr O1 W W7 := (fW6.mono (fun _ _ h => h.elim)).then hS.1 (fun b hb h => (hT b h).elim id (fun h => by omega))
  have own7 : ∀ b, O' b → O1 b ∨ W.heap.size ≤ b := by
    intro b h
    rcases hS.2 b h with h1 | h1
    · exact (hT b h1).elim .inl (fun h => .inr (by omega))
    · exact .inr (by omega)
  rcases hJD with ⟨O2, p2, g2, q2, hO, hJ7, st7⟩ | ⟨ys, hys, O2, zs, hO, hzs, hD7, hl7, hn7⟩
  · refine .inl ⟨st7.lrec, ?_⟩
    have hitp : rowsE width wrap to_ (unitsC tab (charsP l)).1 <+: c1.items := by rw [HIT.out]; exact List.prefix_rfl
    have d7 := st7.dis
    have f8 : Fr (fun b => b = w1.heap.size + 5) W7 (W7.putObj (w1.heap.size + 5) (r.at .exhausted none)) := (Fr.refl _ _).putObj _ _ (fun _ => rfl)
    generalize hW8 : W7.putObj (w1.heap.size + 5) (r.at .exhausted none) = W8
    rw [hW8] at f8
    clear hW8
    simp only [Exit.inBlock, Exit.then]
    rename_i KK hKK
    refine hKK _ _ ?_
    refine wpIn_seq (end18 w1.heap.size (w1.heap.size + 1) W.heap.size bto p2 g2 q2 width _ _ to_ W8 _ _ ⟨f8.at st7.fil.1 (Ne.symm d7.lp), f8.at st7.fil.2.1 (Ne.symm d7.lg), f8.at st7.fil.2.2 (Ne.symm d7.lq)⟩ (f8.at st7.f (by omega)) (f8.at st7.o (by omega)) (f8.at bT (by omega)) st7.ok hw d7.pq (Ne.symm d7.pg) d7.gq ?_)
    intro v63 v64 v65 v66 v67 w9 hfil9 f9
    have nD2 : ∀ b, OT (w1.heap.size + 5) w1.heap.size (w1.heap.size + 1) p2 g2 q2 O2 b → b ≠ w1.heap.size + 4 := fun b h e => nD (by rw [hO, ← e]; exact h)
    have in7 : ∀ b, OT (w1.heap.size + 5) w1.heap.size (w1.heap.size + 1) p2 g2 q2 O2 b → O1 b ∨ W.heap.size ≤ b := fun b h => own7 b (by rw [hO]; exact h)
    have bD9 : w9.heap[w1.heap.size + 4]? = some (.deferred (some [])) := f9.at (f8.at bD (by omega)) (by
      rintro (h | h | h)
      · exact nD2 p2 (.inr T2.p) h.symm
      · exact nD2 g2 (.inr T2.g) h.symm
      · exact nD2 q2 (.inr T2.q) h.symm)
    have y9 : w9.heap[W.heap.size]? = some (boxY c1.l 89) := f9.at (f8.at st7.y (by omega)) (by
      rintro (h | h | h)
      · exact (st7.own _ T2.p).2.2.2.1 h.symm
      · exact (st7.own _ T2.g).2.2.2.1 h.symm
      · exact (st7.own _ T2.q).2.2.2.1 h.symm)
    have ff9 : w9.heap[w1.heap.size]? = some (boxP p2) := f9.at (f8.at st7.f (by omega)) (by
      rintro (h | h | h)
      · exact d7.fp h
      · exact d7.fg h
      · exact d7.fq h)
    have ol := st7.own _ T2.l
    have og := st7.own _ T2.g
    have oq := st7.own _ T2.q
    have hJ8 := c1.stable hJ7 f8 (fun b _ h => by rw [h]; exact ⟨ol.1, ol.2.1⟩)
    have hJ9 := c1.stable hJ8 f9 (fun b _ h => ⟨(st7.own b (pgq_T2 b h)).1, (st7.own b (pgq_T2 b h)).2.1⟩)
    refine emit20 c1 w1.heap.size (w1.heap.size + 1) W.heap.size bto p2 g2 q2 _ _ O2 w9 _ _ hJ9 hfil9 ff9 y9 hitp og.1 oq.1 og.2.2.1 oq.2.2.1 ?_
    intro T more O3 w10 hS10 hj hdd
    have bD10 := hS10.1.at bD9 (fun h => nD2 _ (.inl h) rfl)
    have s8 := f8.size
    have s9 := f9.size
    have s10 := hS10.1.size
    have hDl := lt_of_block bD
    have nD3 : ¬ O3 (w1.heap.size + 4) := by
      intro h
      rcases hS10.2 _ h with h1 | (h1 | h1) | h1
      · exact nD2 _ (.inl h1) rfl
      · exact nD2 g2 (.inr T2.g) h1.symm
      · exact nD2 q2 (.inr T2.q) h1.symm
      · omega
    have g10 : Fr (fun b => b = w1.heap.size + 4) w10 (w10.putObj (w1.heap.size + 4) (.deferred none)) := (Fr.refl _ _).putObj _ _ (fun _ => rfl)
    refine ends_mark rfl bD10 (fun v => ⟨⟨v, rfl⟩, O3, ?_, ?_, ?_⟩)
    · refine (((fW7.then f8 (fun b hb h => by omega)).then f9 (fun b hb h => ?_)).then hS10.1 (fun b hb h => ?_)).then g10 (fun b hb h => by omega)
      · exact (in7 b (.inr (pgq_T2 b h))).elim id (fun h => by omega)
      · exact (in7 b (.inl h)).elim id (fun h => by omega)
    · intro b h
      rcases hS10.2 b h with h1 | (h1 | h1) | h1
      · exact in7 b (.inl h1)
      · rw [h1]; exact in7 _ (.inr T2.g)
      · rw [h1]; exact in7 _ (.inr T2.q)
      · exact .inr (by omega)
    · have hlD : ∀ b, b < w10.heap.size → b = w1.heap.size + 4 → ¬ O3 b ∧ c1.lo ≤ b := fun b _ h => by rw [h]; exact ⟨nD3, by omega⟩
      cases more with
      | true =>
        have hx : c1.J (rowsE width wrap to_ (unitsC tab (charsP l)).1) O3 (w10.putObj (w1.heap.size + 4) (.deferred none)) := c1.stable (hj rfl) g10 hlD
        rw [← HIT.out] at hx
        exact .inl hx
      | false =>
        exact .inr ⟨rowsE width wrap to_ (unitsC tab (charsP l)).1, hitp, c1.stableD (hdd rfl) g10 hlD⟩
  · refine .inr ⟨_, hl7, ?_⟩
    gi_wp2
    refine ends_mark rfl (ho_other bD (by omega)) (fun v => ⟨⟨v, rfl⟩, ?_⟩)
    have g7 : Fr (fun b => b = w1.heap.size + 5 ∨ b = w1.heap.size + 4) W7 ((W7.putObj (w1.heap.size + 5) (r.at .exhausted (some .ret))).putObj (w1.heap.size + 4) (.deferred none)) := ((Fr.refl _ _).putObj _ _ (fun _ => .inl rfl)).putObj _ _ (fun _ => .inr rfl)
    refine ⟨O2, fW7.then g7 (fun b hb h => by omega), fun b h => own7 b (by rw [hO]; exact .inl h), .inr ⟨zs, hzs, ?_⟩⟩
    exact c1.stableD hD7 g7 (fun b _ h => by
      rcases h with h | h
      · rw [h]; exact ⟨hn7, by omega⟩
      · rw [h]; exact ⟨fun h2 => nD (by rw [hO]; exact .inl h2), by omega⟩)
end Go.Proofs.YtppjgofjjcdcdaaDoor

/- layout.Rows: its loop over the rows, as a consumer of rows. -/
namespace Go.Proofs.YtppjgofjjcdcdaaDoor
open PLayoutRows
open Go.RowKit
def toR (r : Row) (t : Int) : Row := { r with f3 := t }
def setLastR : List Row → Int → List Row
  | [], _ => []
  | [r], t => [toR r t]
  | r :: rs, t => r :: setLastR rs t
def addR (to_ : Int) (rs : List Row) (r : Row) : List Row := setLastR rs r.f2 ++ [toR r to_]
/-- Rows with their To: the next one's From, of the last one to_. -/
def tosR (to_ : Int) (E : List Row) : List Row := E.foldl (addR to_) []
theorem tosR_snoc (to_ : Int) (E : List Row) (r : Row) : tosR to_ (E ++ [r]) = addR to_ (tosR to_ E) r := by simp [tosR]
theorem setLastR_len : ∀ (rs : List Row) (t : Int), (setLastR rs t).length = rs.length
  | [], _ => rfl
  | [_], _ => rfl
  | _ :: e :: ds, t => by simp only [setLastR, List.length_cons]; rw [setLastR_len (e :: ds) t]; rfl
theorem tosR_len' (to_ : Int) : ∀ (E acc : List Row), (E.foldl (addR to_) acc).length = acc.length + E.length
  | [], acc => rfl
  | r :: E, acc => by
    rw [List.foldl_cons, tosR_len' to_ E]
    simp only [addR, List.length_append, setLastR_len, List.length_cons, List.length_nil]
    omega
theorem tosR_len (to_ : Int) (E : List Row) : (tosR to_ E).length = E.length := by
  have h := tosR_len' to_ E []
  rw [List.length_nil, Nat.zero_add] at h
  exact h
theorem setLast_map : ∀ (ds : List RowD) (t : Int), (setLast ds t).map RowD.row = setLastR (ds.map RowD.row) t
  | [], _ => rfl
  | [_], _ => rfl
  | d :: e :: ds, t => by
    show d.row :: (setLast (e :: ds) t).map RowD.row = d.row :: setLastR ((e :: ds).map RowD.row) t
    rw [setLast_map (e :: ds) t]
theorem emitD_map (ds : List RowD) (d : RowD) (t : Int) : (emitD ds d t).map RowD.row = addR t (ds.map RowD.row) d.row := by
  simp only [emitD, addR, List.map_append, setLast_map]
  rfl
def OC (bOut l1 : Nat) (v : Value) (ds : List RowD) (b : Nat) : Prop := b = bOut ∨ b = l1 ∨ v.ownBlock = some b ∨ ∃ d ∈ ds, b = d.g ∨ b = d.q
/-- What the collecting loop holds. -/
structure St1 (r : Rec) (l1 bTo bMost bOut base : Nat) (to_ : Int) (most : Nat) (st : LoopState) (pe : Option Code) (v : Value) (ds : List RowD) (W : World) : Prop where
  lrec : W.heap[l1]? = some (r.at st pe)
  bto : W.heap[bTo]? = some (boxI to_)
  bmost : W.heap[bMost]? = some (boxI most)
  bout : W.heap[bOut]? = some (.cells #[v] 27 (0, 0))
  out : OutAt W base v ds
theorem St1.stable {r : Rec} {l1 bTo bMost bOut base lo : Nat} {to_ : Int} {most : Nat} {st : LoopState} {pe : Option Code} {v : Value} {ds : List RowD} {W W' : World} {T : Nat → Prop} (h : St1 r l1 bTo bMost bOut base to_ most st pe v ds W)
    (f : Fr T W W') (hT : ∀ b, b < W.heap.size → T b → ¬ OC bOut l1 v ds b ∧ lo ≤ b) (h1 : bTo < lo) (h2 : bMost < lo) : St1 r l1 bTo bMost bOut base to_ most st pe v ds W' := by
  have n : ∀ b, b < W.heap.size → OC bOut l1 v ds b → ¬ T b := fun b hb ho ht => (hT b hb ht).1 ho
  refine ⟨f.at h.lrec (n _ (lt_of_block h.lrec) (.inr (.inl rfl))), f.at h.bto (fun ht => by have := (hT _ (lt_of_block h.bto) ht).2; omega), f.at h.bmost (fun ht => by have := (hT _ (lt_of_block h.bmost) ht).2; omega),
    f.at h.bout (n _ (lt_of_block h.bout) (.inl rfl)), h.out.kept f (fun b hb => ?_) (fun d hd => ?_)⟩
  · obtain ⟨cur, hc⟩ := h.out.own_block hb
    exact n _ (lt_of_block hc) (.inr (.inr (.inl hb)))
  · obtain ⟨_, _, hg, hq⟩ := h.out.at_ d hd
    exact ⟨n _ (lt_of_block hg) (.inr (.inr (.inr ⟨d, hd, .inl rfl⟩))), n _ (lt_of_block hq) (.inr (.inr (.inr ⟨d, hd, .inr rfl⟩)))⟩
theorem St1.lt {r : Rec} {l1 bTo bMost bOut base : Nat} {to_ : Int} {most : Nat} {st : LoopState} {pe : Option Code} {v : Value} {ds : List RowD} {W : World} (h : St1 r l1 bTo bMost bOut base to_ most st pe v ds W) {b : Nat} (hb : OC bOut l1 v ds b) : b < W.heap.size := by
  rcases hb with rfl | rfl | hb | ⟨d, hd, rfl | rfl⟩
  · exact lt_of_block h.bout
  · exact lt_of_block h.lrec
  · obtain ⟨cur, hc⟩ := h.out.own_block hb
    exact lt_of_block hc
  · exact lt_of_block (h.out.at_ d hd).2.2.1
  · exact lt_of_block (h.out.at_ d hd).2.2.2
theorem St1.base {r : Rec} {l1 bTo bMost bOut base : Nat} {to_ : Int} {most : Nat} {st : LoopState} {pe : Option Code} {v : Value} {ds : List RowD} {W : World} (h : St1 r l1 bTo bMost bOut base to_ most st pe v ds W) (h1 : base ≤ bOut) (h2 : base ≤ l1) {b : Nat} (hb : OC bOut l1 v ds b) : base ≤ b := by
  rcases hb with rfl | rfl | hb | ⟨d, hd, rfl | rfl⟩
  · exact h1
  · exact h2
  · exact (h.out.own.lt b hb).1
  · exact (h.out.at_ d hd).1
  · exact (h.out.at_ d hd).2.1
def cons1 (r : Rec) (l1 bTo bMost bOut base lo : Nat) (to_ : Int) (most : Nat) (items : List Row) (hps : r.params.size = 1) (h1 : bTo < lo) (h2 : bMost < lo) (h3 : base ≤ bOut) (h4 : base ≤ l1) (h5 : base ≤ lo) (hlo : lo ≤ lo)
    (hround : ∀ (d : RowD) (v : Value) (ds : List RowD) (W : World), St1 r l1 bTo bMost bOut base to_ most .ready none v ds W → W.heap[d.g]? = some (cellB d.row.f0) → W.heap[d.q]? = some (posB d.row.f1) → base ≤ d.g → base ≤ d.q → base ≤ W.heap.size → ds.length ≤ most →
      Yields Tryd.prog r l1 #[.agg (rowV d).toArray] W
        (fun W' => ds.length < most ∧ ∃ v', W'.heap[l1]? = some (r.at .ready none) ∧ W'.heap[bOut]? = some (.cells #[v'] 27 (0, 0)) ∧ OutAt W' base v' (emitD ds d to_) ∧ Fr (Own1 bOut l1 v) W W' ∧ (v'.ownBlock = v.ownBlock ∨ v'.ownBlock = some W.heap.size ∨ ∃ b, v'.ownBlock = some b ∧ W.heap.size ≤ b))
        (fun c W' => c = .exit 0 ∧ ds.length = most ∧ W'.heap[l1]? = some (r.at .done (some c)) ∧ W'.heap[bOut]? = some (.cells #[v] 27 (0, 0)) ∧ OutAt W' base v (setLast ds d.row.f2) ∧ Fr (Own1 bOut l1 v) W W')) : ConsR Tryd.prog where
  r := r
  l := l1
  lo := lo
  base := base
  stop := .exit 0
  items := items
  J E O W := ∃ v ds, O = OC bOut l1 v ds ∧ St1 r l1 bTo bMost bOut base to_ most .ready none v ds W ∧ ds.map RowD.row = tosR to_ E ∧ E.length ≤ most ∧ base ≤ W.heap.size
  D E O W := ∃ v ds E0 x, O = OC bOut l1 v ds ∧ E = E0 ++ [x] ∧ E0.length = most ∧ St1 r l1 bTo bMost bOut base to_ most .done (some (.exit 0)) v ds W ∧ ds.map RowD.row = setLastR (tosR to_ E0) x.f2 ∧ base ≤ W.heap.size
  ready := by
    rintro E O W ⟨v, ds, rfl, st, _⟩
    exact ⟨st.lrec, .inr (.inl rfl)⟩
  done := by
    rintro E O W ⟨v, ds, E0, x, rfl, _, _, st, _⟩
    exact ⟨st.lrec, .inr (.inl rfl)⟩
  own := by
    rintro E O W ⟨v, ds, rfl, st, _⟩ b hb
    exact st.base h3 h4 hb
  ownD := by
    rintro E O W ⟨v, ds, E0, x, rfl, _, _, st, _⟩ b hb
    exact st.base h3 h4 hb
  stable := by
    rintro E O W W' T ⟨v, ds, rfl, st, h, hl, hb⟩ hf hT
    exact ⟨v, ds, rfl, st.stable hf hT h1 h2, h, hl, Nat.le_trans hb hf.size⟩
  stableD := by
    rintro E O W W' T ⟨v, ds, E0, x, rfl, hE, hl, st, h, hb⟩ hf hT
    exact ⟨v, ds, E0, x, rfl, hE, hl, st.stable hf hT h1 h2, h, Nat.le_trans hb hf.size⟩
  lt := by
    rintro E O W ⟨v, ds, rfl, st, _⟩ b hb
    exact st.lt hb
  psize := hps
  step := by
    rintro E d O W _ ⟨v, ds, rfl, st, h, hl, hb⟩ hg hq _ _ bg bq
    have hlen : ds.length = E.length := by
      have := congrArg List.length h
      rwa [List.length_map, tosR_len] at this
    have nTo : ∀ b, (W.heap[b]? = some (boxI to_) ∨ W.heap[b]? = some (boxI most)) → ¬ Own1 bOut l1 v b := by
      rintro b hb (rfl | rfl | h')
      · rcases hb with hb | hb
        · exact ne_type st.bout hb (by decide) rfl
        · exact ne_type st.bout hb (by decide) rfl
      · rcases hb with hb | hb
        · exact ne_obj st.lrec hb (by intro e; cases e) rfl
        · exact ne_obj st.lrec hb (by intro e; cases e) rfl
      · obtain ⟨cur, hc⟩ := st.out.own_block h'
        rcases hb with hb | hb
        · exact ne_type hc hb (by decide) rfl
        · exact ne_type hc hb (by decide) rfl
    have sub : ∀ b, Own1 bOut l1 v b → OC bOut l1 v ds b := by
      rintro b (rfl | rfl | h')
      · exact .inl rfl
      · exact .inr (.inl rfl)
      · exact .inr (.inr (.inl h'))
    refine (hround d v ds W st hg hq bg bq hb (by rw [hlen]; exact hl)).mono ?_ ?_
    · rintro W' ⟨hlt, v', hl', ho', hout', hf, hv'⟩
      refine ⟨OC bOut l1 v' (emitD ds d to_), ⟨v', emitD ds d to_, rfl, ⟨hl', hf.at st.bto (nTo _ (.inl st.bto)), hf.at st.bmost (nTo _ (.inr st.bmost)), ho', hout'⟩, ?_, ?_, Nat.le_trans hb hf.size⟩, hf.mono (fun b _ h => sub b h), ?_⟩
      · rw [emitD_map, h, tosR_snoc]
      · rw [List.length_append, List.length_cons, List.length_nil]; omega
      · rintro b (rfl | rfl | h' | ⟨e, he, h'⟩)
        · exact .inl (.inl rfl)
        · exact .inl (.inr (.inl rfl))
        · rcases hv' with hv' | hv' | ⟨b', hv', hb'⟩
          · exact .inl (.inr (.inr (.inl (hv'.symm.trans h'))))
          · rw [hv'] at h'; cases h'; exact .inr (.inr (Nat.le_refl _))
          · rw [hv'] at h'; cases h'; exact .inr (.inr hb')
        · obtain ⟨x, hx, e1, e2, _, _⟩ := mem_emitD he
          rw [e1, e2] at h'
          rcases hx with hx | rfl
          · exact .inl (.inr (.inr (.inr ⟨x, hx, h'⟩)))
          · exact .inr (.inl h')
    · rintro c W' ⟨rfl, hlm, hl', ho', hout', hf⟩
      refine ⟨OC bOut l1 v (setLast ds d.row.f2), ⟨v, setLast ds d.row.f2, E, d.row, rfl, rfl, by rw [← hlen]; exact hlm, ⟨hl', hf.at st.bto (nTo _ (.inl st.bto)), hf.at st.bmost (nTo _ (.inr st.bmost)), ho', hout'⟩, by rw [setLast_map, h], Nat.le_trans hb hf.size⟩, hf.mono (fun b _ h => sub b h), ?_⟩
      rintro b (rfl | rfl | h' | ⟨e, he, h'⟩)
      · exact .inl (.inl rfl)
      · exact .inl (.inr (.inl rfl))
      · exact .inl (.inr (.inr (.inl h')))
      · obtain ⟨x, hx, e1, e2, _, _⟩ := mem_setLast _ _ _ he
        rw [e1, e2] at h'
        exact .inl (.inr (.inr (.inr ⟨x, hx, h'⟩)))
end Go.Proofs.YtppjgofjjcdcdaaDoor

/- layout.check and layout.Check. -/
namespace Go.Proofs.YtppjgofjjcdcdaaDoor
open PLayoutRows
open Go.RowKit Go.Proofs.YtppjgofjjcdcdaaDoorW.PrintWords
/-- The two tables of unicode/utf8, as they are laid. -/
def Tabs (w : World) : Prop := Lib.Utf8Tabs (Tryd.laysValid_ren.g 3) (Tryd.laysValid_ren.g 4) w
def validP (s : ByteArray) : Bool := Lib.validD s.data.toList
theorem Tabs.below {w w' : World} (h : Tabs w) (b : Below w.heap.size w w') : Tabs w' := Utf8Tabs_below h b
theorem Fr.ofBelow {w w' : World} (h : Below w.heap.size w w') : Fr Non w w' := Fr.of_below h (fun b h1 h2 => by omega)
theorem Fr.toBelow {w w' : World} (h : Fr Non w w') : Below w.heap.size w w' := h.below (Nat.le_refl _) (fun _ _ h => h)
theorem valid_any (s : ByteArray) (w : World) (hs : s.size ≤ 9223372036854775807) (hT : Tabs w) :
    Calls Tryd.prog 61 #[.string s] w fun e w' => e = .returned (.bool (validP s)) ∧ Fr Non w w' := by
  have H := Any.utf8_ValidString Tryd.laysValid s w hs hT
  have HH := Lib.hid H
  clear H hT
  go_enter Tryd.func61, Tryd.ntmps61
  go_wp2_with (first | (go_at_call 71; refine HH.out.mono ?_; rintro e w1 ⟨rfl, hb⟩) | go_in)
  go_ret
  exact ⟨rfl, Fr.ofBelow hb⟩
def checkP1 (p : Part) (from_ to_ at_ : Int) : Int :=
  if p.f0 < 0 ∨ 2 < p.f0 ∨ validP p.f3 = false then 5
  else if p.f1 < from_ ∨ p.f2 < p.f1 ∨ to_ < p.f2 then 3
  else if p.f0 = 0 ∧ p.f2 - p.f1 ≠ Lib.runeCount p.f3 then 5
  else if p.f0 = 2 ∧ p.f2 ≠ p.f1 then 5
  else if p.f1 < at_ then 19 else 0
def partV (p : Part) : Array Value := #[.int .i64 p.f0, .int .i64 p.f1, .int .i64 p.f2, .string p.f3, .int .i64 p.f4.f0, .int .i64 p.f4.f1, .bool p.f4.f2, .bool p.f4.f3, .bool p.f4.f4]
set_option maxRecDepth 100000
set_option maxHeartbeats 4000000 in
theorem check1_any (p : Part) (from_ to_ at_ : Int) (w : World) (hs : p.f3.size < 9223372036854775807) (hT : Tabs w) (h1 : 0 ≤ from_) (h2 : to_ ≤ 1000000) :
    Calls Tryd.prog 39 #[.agg (partV p), .int .i64 from_, .int .i64 to_, .int .i64 at_] w fun e w' => e = .returned (.int .i64 (checkP1 p from_ to_ at_)) ∧ Fr Non w w' := by
  have HC := Lib.hid (fun W => Tryd.utf8_RuneCountInString p.f3 W hs)
  have HV := Lib.hid (fun (W : World) (h : Tabs W) => valid_any p.f3 W (by omega) h)
  obtain ⟨r, hr⟩ : ∃ r, checkP1 p from_ to_ at_ = r := ⟨_, rfl⟩
  rw [hr]
  have HR := Lib.hid hr
  clear hr
  have HT := Lib.hid hT
  unfold partV
  go_enter Tryd.func39, Tryd.ntmps39
  go_wp2_with fail
  refine (HC.out _).mono ?_
  rintro e w1 ⟨rfl, ps, rfl⟩
  generalize hW0 : World.iter _ p.f3 ps = W0
  have b0 : W0.heap[w.heap.size]? = some (.cells (partV p) 55 (0, 0)) := by rw [← hW0]; exact hd_alloc (World.alloc_heap_new _ _)
  have f0 : Fr Non w W0 := by rw [← hW0]; exact ((Fr.refl _ _).alloc _).alloc _
  clear hW0
  have HT0 := Lib.hid (HT.out.below f0.toBelow)
  have x0 : W0.cell? ⟨w.heap.size, 0, none⟩ = some (.int .i64 p.f0) := cell_row b0 rfl
  have x1 : W0.cell? ⟨w.heap.size, 1, none⟩ = some (.int .i64 p.f1) := cell_row b0 rfl
  have x2 : W0.cell? ⟨w.heap.size, 2, none⟩ = some (.int .i64 p.f2) := cell_row b0 rfl
  have x3 : W0.cell? ⟨w.heap.size, 3, none⟩ = some (.string p.f3) := cell_row b0 rfl
  have HB0 := Lib.hid b0
  have HF := Lib.hid f0
  clear b0 f0
  by_cases a1 : p.f0 < 0
  · have hval : checkP1 p from_ to_ at_ = 5 := by simp [checkP1, a1] <;> omega
    have HVAL := Lib.hid hval
    clear hval
    go_wp2
    go_ret
    exact ⟨by rw [← HR.out, HVAL.out]; rfl, HF.out⟩
  · by_cases a2 : 2 < p.f0
    · have hval : checkP1 p from_ to_ at_ = 5 := by simp [checkP1, a1, a2] <;> omega
      have HVAL := Lib.hid hval
      clear hval
      go_wp2
      go_ret
      exact ⟨by rw [← HR.out, HVAL.out]; rfl, HF.out⟩
    · have a2' : p.f0 ≤ 2 := by omega
      go_wp2_with fail
      refine (HV.out _ HT0.out).mono ?_
      rintro e w2 ⟨rfl, hf2⟩
      have b2 := hf2.at HB0.out id
      have z0 : w2.cell? ⟨w.heap.size, 0, none⟩ = some (.int .i64 p.f0) := cell_row b2 rfl
      have z1 : w2.cell? ⟨w.heap.size, 1, none⟩ = some (.int .i64 p.f1) := cell_row b2 rfl
      have z2 : w2.cell? ⟨w.heap.size, 2, none⟩ = some (.int .i64 p.f2) := cell_row b2 rfl
      have HF0 := HF
      clear HF
      have HF := Lib.hid (HF0.out.trans hf2)
      clear b2 hf2 x0 x1 x2 x3
      cases hv : validP p.f3
      · have hval : checkP1 p from_ to_ at_ = 5 := by simp [checkP1, a1, a2, hv] <;> omega
        have HVAL := Lib.hid hval
        clear hval
        go_wp2
        go_ret
        exact ⟨by rw [← HR.out, HVAL.out]; rfl, HF.out⟩
      · by_cases b1 : p.f1 < from_
        · have hval : checkP1 p from_ to_ at_ = 3 := by simp [checkP1, a1, a2, hv, b1] <;> omega
          have HVAL := Lib.hid hval
          clear hval
          go_wp2
          go_ret
          exact ⟨by rw [← HR.out, HVAL.out]; rfl, HF.out⟩
        · by_cases b2 : p.f2 < p.f1
          · have hval : checkP1 p from_ to_ at_ = 3 := by simp [checkP1, a1, a2, hv, b1, b2] <;> omega
            have HVAL := Lib.hid hval
            clear hval
            go_wp2
            go_ret
            exact ⟨by rw [← HR.out, HVAL.out]; rfl, HF.out⟩
          · by_cases b3 : to_ < p.f2
            · have hval : checkP1 p from_ to_ at_ = 3 := by simp [checkP1, a1, a2, hv, b1, b2, b3] <;> omega
              have HVAL := Lib.hid hval
              clear hval
              go_wp2
              go_ret
              exact ⟨by rw [← HR.out, HVAL.out]; rfl, HF.out⟩
            · by_cases c1 : p.f0 = 0
              · by_cases c2 : p.f2 - p.f1 = (Lib.runeCount p.f3 : Int)
                · by_cases d1 : p.f1 < at_
                  · have hval : checkP1 p from_ to_ at_ = 19 := by simp [checkP1, a1, a2, hv, b1, b2, b3, c1, c2, d1] <;> omega
                    have HVAL := Lib.hid hval
                    clear hval
                    go_wp2
                    go_ret
                    exact ⟨by rw [← HR.out, HVAL.out]; rfl, HF.out⟩
                  · have hval : checkP1 p from_ to_ at_ = 0 := by simp [checkP1, a1, a2, hv, b1, b2, b3, c1, c2, d1] <;> omega
                    have HVAL := Lib.hid hval
                    clear hval
                    go_wp2
                    go_ret
                    exact ⟨by rw [← HR.out, HVAL.out]; rfl, HF.out⟩
                · have hval : checkP1 p from_ to_ at_ = 5 := by simp [checkP1, a1, a2, hv, b1, b2, b3, c1, c2] <;> omega
                  have HVAL := Lib.hid hval
                  clear hval
                  go_wp2
                  go_ret
                  exact ⟨by rw [← HR.out, HVAL.out]; rfl, HF.out⟩
              · by_cases c3 : p.f0 = 2
                · by_cases c4 : p.f2 = p.f1
                  · by_cases d1 : p.f1 < at_
                    · have hval : checkP1 p from_ to_ at_ = 19 := by simp [checkP1, a1, a2, hv, b1, b2, b3, c1, c3, c4, d1] <;> omega
                      have HVAL := Lib.hid hval
                      clear hval
                      go_wp2
                      go_ret
                      exact ⟨by rw [← HR.out, HVAL.out]; rfl, HF.out⟩
                    · have hval : checkP1 p from_ to_ at_ = 0 := by simp [checkP1, a1, a2, hv, b1, b2, b3, c1, c3, c4, d1] <;> omega
                      have HVAL := Lib.hid hval
                      clear hval
                      go_wp2
                      go_ret
                      exact ⟨by rw [← HR.out, HVAL.out]; rfl, HF.out⟩
                  · have hval : checkP1 p from_ to_ at_ = 5 := by simp [checkP1, a1, a2, hv, b1, b2, b3, c1, c3, c4] <;> omega
                    have HVAL := Lib.hid hval
                    clear hval
                    go_wp2
                    go_ret
                    exact ⟨by rw [← HR.out, HVAL.out]; rfl, HF.out⟩
                · by_cases d1 : p.f1 < at_
                  · have hval : checkP1 p from_ to_ at_ = 19 := by simp [checkP1, a1, a2, hv, b1, b2, b3, c1, c3, d1] <;> omega
                    have HVAL := Lib.hid hval
                    clear hval
                    go_wp2
                    go_ret
                    exact ⟨by rw [← HR.out, HVAL.out]; rfl, HF.out⟩
                  · have hval : checkP1 p from_ to_ at_ = 0 := by simp [checkP1, a1, a2, hv, b1, b2, b3, c1, c3, d1] <;> omega
                    have HVAL := Lib.hid hval
                    clear hval
                    go_wp2
                    go_ret
                    exact ⟨by rw [← HR.out, HVAL.out]; rfl, HF.out⟩
end Go.Proofs.YtppjgofjjcdcdaaDoor

/- layout.Check. -/
namespace Go.Proofs.YtppjgofjjcdcdaaDoor
open PLayoutRows
open Go.RowKit Go.Proofs.YtppjgofjjcdcdaaDoorW.PrintWords
def checkL (from_ to_ : Int) : List Part → Int → Int
  | [], _ => 0
  | p :: ps, a => if checkP1 p from_ to_ a = 0 then checkL from_ to_ ps p.f2 else checkP1 p from_ to_ a
def checkP (l : List Part) (from_ to_ : Int) : Int := if from_ < 1 ∨ to_ < from_ ∨ 65537 < to_ then 3 else checkL from_ to_ l from_
theorem drop_cons (l : List Part) (k : Nat) (h : k < l.length) : l.drop k = l.getD k z55 :: l.drop (k + 1) := by
  rw [List.drop_eq_getElem_cons h]
  simp [h]
set_option maxRecDepth 100000
set_option maxHeartbeats 4000000 in
theorem check_any (A : Option Addr) (cap : Nat) (l : List Part) (from_ to_ : Int) (w : World) (hd : Kd.C k55 w A l.length l) (hT : Tabs w) (hs : ∀ p ∈ l, p.f3.size < 9223372036854775807) :
    Calls Tryd.prog 15 #[.slice A l.length cap, .int .i64 from_, .int .i64 to_] w fun e w' => e = .returned (.int .i64 (checkP l from_ to_)) ∧ Fr Non w w' := by
  obtain ⟨r, hr⟩ : ∃ r, checkP l from_ to_ = r := ⟨_, rfl⟩
  rw [hr]
  have hlen : l.length ≤ 9223372036854775807 := hd.2.1
  have HD := Lib.hid hd
  have HS := Lib.hid hs
  have HT := Lib.hid hT
  clear hd hs hT
  by_cases h1 : from_ < 1
  · have hv : r = 3 := by rw [← hr]; simp [checkP, h1]
    have HV := Lib.hid hv
    clear hr hv
    go_enter Tryd.func15, Tryd.ntmps15
    go_wp2
    go_ret
    exact ⟨by rw [HV.out]; rfl, Fr.refl _ _⟩
  · by_cases h2 : to_ < from_
    · have hv : r = 3 := by rw [← hr]; simp [checkP, h2]
      have HV := Lib.hid hv
      clear hr hv
      go_enter Tryd.func15, Tryd.ntmps15
      go_wp2
      go_ret
      exact ⟨by rw [HV.out]; rfl, Fr.refl _ _⟩
    · by_cases h3 : 65537 < to_
      · have hv : r = 3 := by rw [← hr]; simp [checkP, h3]
        have HV := Lib.hid hv
        clear hr hv
        go_enter Tryd.func15, Tryd.ntmps15
        go_wp2
        go_ret
        exact ⟨by rw [HV.out]; rfl, Fr.refl _ _⟩
      · have hv : checkL from_ to_ l from_ = r := by rw [← hr]; simp [checkP, h1, h2, h3]
        have HV := Lib.hid hv
        clear hr hv
        go_enter Tryd.func15, Tryd.ntmps15
        go_wp2
        go_loopw [7, 25] (fun a i wr => ∃ (k : Nat) (av : Int), a = .int .i64 av ∧ i = .int .i64 k ∧ k ≤ l.length ∧ checkL from_ to_ (l.drop k) av = r ∧ Fr Non w wr) (fun _ i _ => l.length - (intOf i).toNat)
        case atStart => exact ⟨0, from_, rfl, rfl, Nat.zero_le _, HV.out, Fr.refl _ _⟩
        case round =>
          obtain ⟨k, av, rfl, rfl, hk, hc, hf⟩ := hrel
          by_cases hkl : k < l.length
          · obtain ⟨ad, hA, f0, f1, f2, f3, f4, f5, f6, f7, f8⟩ := at_T55 (Kd.C_below HD.out hf.toBelow) (k : Int) (by omega) (by omega)
            simp only [Int.toNat_natCast] at f0 f1 f2 f3 f4 f5 f6 f7 f8
            obtain ⟨p, hp⟩ : ∃ p, rd_T55 l (k : Int) = p := ⟨_, rfl⟩
            rw [hp] at f0 f1 f2 f3 f4 f5 f6 f7 f8
            subst hA
            have hpd : l.getD k z55 = p := hp
            have hpm : p ∈ l := by rw [← hpd]; simp [hkl]
            rw [drop_cons l k hkl, hpd] at hc
            have hE : ∀ W, Tabs W → Calls Tryd.prog 39 #[.agg #[.int .i64 p.f0, .int .i64 p.f1, .int .i64 p.f2, .string p.f3, .int .i64 p.f4.f0, .int .i64 p.f4.f1, .bool p.f4.f2, .bool p.f4.f3, .bool p.f4.f4], .int .i64 from_, .int .i64 to_, .int .i64 av] W fun e w' => e = .returned (.int .i64 (checkP1 p from_ to_ av)) ∧ Fr Non W w' :=
              fun W hT => check1_any p from_ to_ av W (HS.out p hpm) hT (by omega) (by omega)
            have HE := Lib.hid hE
            have HC := Lib.hid hc
            have HF := Lib.hid hf
            clear hE hc hf hp hpd
            go_wp2_with fail
            refine (HE.out _ (HT.out.below (HF.out.alloc _).toBelow)).mono ?_
            rintro e w2 ⟨rfl, hf2⟩
            have HF2 := Lib.hid ((HF.out.alloc _).trans hf2)
            have b2 := hf2.at (World.alloc_heap_new _ _) id
            have z2 : w2.cell? ⟨wr.heap.size, 2, none⟩ = some (.int .i64 p.f2) := cell_row b2 rfl
            clear hf2 b2
            have hc := HC.out
            simp only [checkL] at hc
            by_cases he : checkP1 p from_ to_ av = 0
            · rw [if_pos he] at hc
              have HC2 := Lib.hid hc
              clear hc
              rw [he]
              go_wp2
              go_roundw
              case rel => exact ⟨k + 1, p.f2, rfl, by simp, by omega, HC2.out, HF2.out⟩
              case measure => simp [intOf]; omega
            · rw [if_neg he] at hc
              rw [hc] at he ⊢
              clear hc
              go_wp2
              go_ret
              exact ⟨rfl, HF2.out⟩
          · have hkl' : k = l.length := by omega
            have hr0 : r = 0 := by rw [← hc, hkl', List.drop_length]; rfl
            have HR0 := Lib.hid hr0
            have HF := Lib.hid hf
            clear hc hf hr0
            go_wp2
            go_ret
            exact ⟨by rw [HR0.out]; rfl, HF.out⟩
end Go.Proofs.YtppjgofjjcdcdaaDoor

/- layout.Rows. -/
namespace Go.Proofs.YtppjgofjjcdcdaaDoor
open PLayoutRows
open Go.RowKit Go.Proofs.YtppjgofjjcdcdaaDoorW.PrintWords
attribute [local go_sem] Oper.semAt_some
def collectR (to_ : Int) (most : Nat) (E : List Row) : List Row :=
  if E.length ≤ most then tosR to_ E else setLastR (tosR to_ (E.take most)) (E.getD most z39).f2
def badR (width tab most : Int) : Prop := width < 4 ∨ 1000 < width ∨ tab < 1 ∨ 64 < tab ∨ most < 0 ∨ 10000 < most
instance (width tab most : Int) : Decidable (badR width tab most) := by unfold badR; infer_instance
def rowsP (l : List Part) (from_ to_ width tab : Int) (wrap : Bool) (most : Int) : List Row × Int :=
  if checkP l from_ to_ ≠ 0 then ([], checkP l from_ to_)
  else if badR width tab most then ([], 3)
  else (collectR to_ most.toNat (rowsE width.toNat wrap to_ (unitsC tab (charsP l)).1), 0)
theorem runesFrom_len (s : ByteArray) : ∀ n k, (runesFrom s n k).length ≤ n
  | 0, _ => by simp [runesFrom]
  | n + 1, k => by
    unfold runesFrom
    split
    · have := runesFrom_len s n (k + (Utf8.decode s k).2); simp; omega
    · simp
theorem charsFrom_len (kind : Int) (look : Look) : ∀ (cs : List Int) (pos : Int), (charsFrom kind look pos cs).length = cs.length
  | [], _ => rfl
  | c :: cs, pos => by simp only [charsFrom, List.length_cons, charsFrom_len kind look cs]
theorem charsP_len (B : Nat) : ∀ (l : List Part), (∀ p ∈ l, p.f3.size ≤ B) → (charsP l).length ≤ l.length * B
  | [], _ => by simp [charsP]
  | p :: l, h => by
    have ih := charsP_len B l (fun q hq => h q (List.mem_cons_of_mem _ hq))
    have h1 := h p (List.mem_cons_self ..)
    have h2 : (partChars p).length ≤ p.f3.size := by unfold partChars; rw [charsFrom_len]; exact runesFrom_len _ _ _
    have e : charsP (p :: l) = partChars p ++ charsP l := rfl
    rw [e, List.length_append, List.length_cons, Nat.succ_mul]
    omega
theorem checkL_bounds (from_ to_ : Int) : ∀ (l : List Part) (a : Int), checkL from_ to_ l a = 0 → ∀ p ∈ l, from_ ≤ p.f1 ∧ p.f1 ≤ p.f2 ∧ p.f2 ≤ to_
  | [], _, _, p, hp => by simp at hp
  | q :: l, a, h, p, hp => by
    simp only [checkL] at h
    have h0 : checkP1 q from_ to_ a = 0 := by
      by_cases h0 : checkP1 q from_ to_ a = 0
      · exact h0
      · rw [if_neg h0] at h; exact absurd h h0
    rw [if_pos h0] at h
    rcases List.mem_cons.1 hp with rfl | hp
    · unfold checkP1 at h0
      split at h0
      · omega
      · split at h0
        · omega
        · rename_i h1
          simp only [not_or, Int.not_lt] at h1
          exact h1
    · exact checkL_bounds from_ to_ l _ h p hp
theorem checkP_bounds {l : List Part} {from_ to_ : Int} (h : checkP l from_ to_ = 0) : 1 ≤ from_ ∧ from_ ≤ to_ ∧ to_ ≤ 65537 ∧ ∀ p ∈ l, from_ ≤ p.f1 ∧ p.f1 ≤ p.f2 ∧ p.f2 ≤ to_ := by
  unfold checkP at h
  split at h
  · omega
  · rename_i h1
    simp only [not_or, Int.not_lt] at h1
    exact ⟨h1.1, h1.2.1, h1.2.2, checkL_bounds _ _ _ _ h⟩
theorem collect_cut (to_ : Int) (m : Nat) (E0 : List Row) (x : Row) (E : List Row) (hl : E0.length = m) (h : E0 ++ [x] <+: E) : collectR to_ m E = setLastR (tosR to_ E0) x.f2 := by
  obtain ⟨zs, rfl⟩ := h
  subst hl
  unfold collectR
  rw [if_neg (by simp), List.append_assoc, List.take_left]
  simp
theorem ends_mark2 {P : Program} {fn : Func} {tmps : Array Value} {w : World} {D : Nat} {t u : Tmp} {R : Ending → World → Prop} (hres : fn.results = #[.tmp t, .tmp u]) (hd : w.heap[D]? = some (.deferred (some [])))
    (hR : R (.returned (.tuple #[tmps.getD t undef, tmps.getD u undef])) (w.putObj D (.deferred none))) : LeavesInM Fence.wide 0 P fn tmps R [{ target := .collected D, args := #[] }] .returning w := by
  refine ⟨by simp, .inl ⟨_, _, rfl, run_takeDeferred hd, ?_⟩⟩
  exact ⟨_, by simp [results, hres], hR⟩
theorem no_goto {Q : Exit → Act → World → Prop} {a : Act} {w : World} (h : Q .ret a w) : Exit.noGoto Q .ret a w := h
theorem ends_two {P : Program} {fn : Func} {tmps : Array Value} {w : World} {t u : Tmp} {R : Ending → World → Prop} (hres : fn.results = #[.tmp t, .tmp u]) (hR : R (.returned (.tuple #[tmps.getD t undef, tmps.getD u undef])) w) :
    LeavesInM Fence.wide 0 P fn tmps R [] .returning w := ⟨_, by simp [results, hres], hR⟩
set_option maxRecDepth 100000
set_option maxHeartbeats 4000000 in
theorem rows_any (A : Option Addr) (cap : Nat) (l : List Part) (from_ to_ width tab : Int) (wrap : Bool) (most : Int) (w : World) (hd : Kd.C k55 w A l.length l) (hT : Tabs w) (hs : ∀ p ∈ l, p.f3.size ≤ 1000000) (hll : l.length ≤ 1000) :
    CallsIn Fence.wide 0 Tryd.prog 12 #[.slice A l.length cap, .int .i64 from_, .int .i64 to_, .int .i64 width, .int .i64 tab, .bool wrap, .int .i64 most] w fun e w' =>
      ∃ v ds, e = .returned (.tuple #[v, .int .i64 (rowsP l from_ to_ width tab wrap most).2]) ∧ OutAt w' w.heap.size v ds ∧ ds.map RowD.row = (rowsP l from_ to_ width tab wrap most).1 ∧ Fr Non w w' := by
  have HC := Lib.hid (fun W (hC : Kd.C k55 W A l.length l) (hT : Tabs W) => (show CallsIn Fence.wide 0 Tryd.prog _ _ _ _ from callsIn_wide.2 (check_any A cap l from_ to_ W hC hT (fun p hp => by have := hs p hp; omega))))
  have HD := Lib.hid hd
  have HT := Lib.hid hT
  have HS := Lib.hid hs
  obtain ⟨ce, hce⟩ : ∃ ce, checkP l from_ to_ = ce := ⟨_, rfl⟩
  rw [hce] at HC
  have HCE := Lib.hid hce
  clear hd hT hs hce
  obtain ⟨rp, hrp⟩ : ∃ rp, rowsP l from_ to_ width tab wrap most = rp := ⟨_, rfl⟩
  rw [hrp]
  have HRP := Lib.hid hrp
  clear hrp
  refine callsIn_of_wp_marks Tryd.func12 rfl trivial ?_ rfl
  simp only [Tryd.ntmps12, List.size_toArray, List.length_cons, List.length_nil, Nat.reduceAdd, Nat.reduceSub, Array.replicate_succ, Array.replicate_zero, List.push_toArray, List.append_toArray, List.nil_append, List.cons_append]
  gi_wp2_with fail
  refine wpIn_scope_wide ?_
  gi_wp2_with fail
  generalize hW2 : (w.alloc (.cells #[.int .i64 to_] 3)).alloc (.cells #[.int .i64 most] 3) = w2
  have s2 : w2.heap.size = w.heap.size + 2 := by rw [← hW2]; simp
  have f2 : Fr Non w w2 := by rw [← hW2]; exact ((Fr.refl _ _).alloc _).alloc _
  have bT2 : w2.heap[w.heap.size]? = some (boxI to_) := by rw [← hW2]; exact hd_alloc (World.alloc_heap_new _ _)
  have bM2 : w2.heap[w.heap.size + 1]? = some (boxI most) := by
    rw [← hW2]
    have h := World.alloc_heap_new (w.alloc (.cells #[.int .i64 to_] 3)) (.cells #[.int .i64 most] 3)
    rw [World.size_alloc] at h
    exact h
  clear hW2
  refine ⟨trivial, rfl, (HC.out w2 (Kd.C_below HD.out f2.toBelow) (HT.out.below f2.toBelow)).mono ?_⟩
  rintro e w3 ⟨rfl, hf3⟩
  have HF3 := Lib.hid (f2.trans hf3)
  have HBT := Lib.hid (hf3.at bT2 id)
  have HBM := Lib.hid (hf3.at bM2 id)
  have s3 : w.heap.size + 2 ≤ w3.heap.size := by have := hf3.size; omega
  clear hf3 bT2 bM2 f2 s2
  by_cases hc0 : ce = 0
  · subst hc0
    have bM : w3.cell? ⟨w.heap.size + 1, 0, none⟩ = some (.int .i64 most) := cell_row HBM.out rfl
    by_cases a1 : width < 4
    · have hr : rp = ([], 3) := by rw [← HRP.out]; unfold rowsP; rw [HCE.out, if_neg (by simp), if_pos (by unfold badR; simp [a1])]
      have HR := Lib.hid hr
      clear hr
      gi_wp2
      refine no_goto (ends_two (P := Tryd.prog) (fn := Tryd.f12) (t := 14) (u := 15) rfl ?_)
      rw [HR.out]
      exact ⟨.slice none 0 0, [], rfl, ⟨World.ownsRow_nil _ _ _ _, by simp⟩, rfl, HF3.out⟩
    · skip
      by_cases a2 : 1000 < width
      · have hr : rp = ([], 3) := by rw [← HRP.out]; unfold rowsP; rw [HCE.out, if_neg (by simp), if_pos (by unfold badR; simp [a2])]
        have HR := Lib.hid hr
        clear hr
        gi_wp2
        refine no_goto (ends_two (P := Tryd.prog) (fn := Tryd.f12) (t := 14) (u := 15) rfl ?_)
        rw [HR.out]
        exact ⟨.slice none 0 0, [], rfl, ⟨World.ownsRow_nil _ _ _ _, by simp⟩, rfl, HF3.out⟩
      · skip
        by_cases a3 : tab < 1
        · have hr : rp = ([], 3) := by rw [← HRP.out]; unfold rowsP; rw [HCE.out, if_neg (by simp), if_pos (by unfold badR; simp [a3])]
          have HR := Lib.hid hr
          clear hr
          gi_wp2
          refine no_goto (ends_two (P := Tryd.prog) (fn := Tryd.f12) (t := 14) (u := 15) rfl ?_)
          rw [HR.out]
          exact ⟨.slice none 0 0, [], rfl, ⟨World.ownsRow_nil _ _ _ _, by simp⟩, rfl, HF3.out⟩
        · skip
          by_cases a4 : 64 < tab
          · have hr : rp = ([], 3) := by rw [← HRP.out]; unfold rowsP; rw [HCE.out, if_neg (by simp), if_pos (by unfold badR; simp [a4])]
            have HR := Lib.hid hr
            clear hr
            gi_wp2
            refine no_goto (ends_two (P := Tryd.prog) (fn := Tryd.f12) (t := 14) (u := 15) rfl ?_)
            rw [HR.out]
            exact ⟨.slice none 0 0, [], rfl, ⟨World.ownsRow_nil _ _ _ _, by simp⟩, rfl, HF3.out⟩
          · skip
            by_cases a5 : most < 0
            · have hr : rp = ([], 3) := by rw [← HRP.out]; unfold rowsP; rw [HCE.out, if_neg (by simp), if_pos (by unfold badR; simp [a5])]
              have HR := Lib.hid hr
              clear hr
              gi_wp2
              refine no_goto (ends_two (P := Tryd.prog) (fn := Tryd.f12) (t := 14) (u := 15) rfl ?_)
              rw [HR.out]
              exact ⟨.slice none 0 0, [], rfl, ⟨World.ownsRow_nil _ _ _ _, by simp⟩, rfl, HF3.out⟩
            · skip
              by_cases a6 : 10000 < most
              · have hr : rp = ([], 3) := by rw [← HRP.out]; unfold rowsP; rw [HCE.out, if_neg (by simp), if_pos (by unfold badR; simp [a6])]
                have HR := Lib.hid hr
                clear hr
                gi_wp2
                refine no_goto (ends_two (P := Tryd.prog) (fn := Tryd.f12) (t := 14) (u := 15) rfl ?_)
                rw [HR.out]
                exact ⟨.slice none 0 0, [], rfl, ⟨World.ownsRow_nil _ _ _ _, by simp⟩, rfl, HF3.out⟩
              · skip
                have bT : w3.cell? ⟨w.heap.size, 0, none⟩ = some (.int .i64 to_) := cell_row HBT.out rfl
                have q1 : 4 ≤ width := by omega
                have q2 : width ≤ 1000 := by omega
                have q3 : 1 ≤ tab := by omega
                have q4 : tab ≤ 64 := by omega
                have q5 : 0 ≤ most := by omega
                have q6 : most ≤ 10000 := by omega
                gi_wp2_with fail
                have HMK := Lib.hid (show CallsIn Fence.wide 0 Tryd.prog _ _ _ _ from callsIn_wide.2 (rows_make A l.length cap to_ width tab wrap (w3.alloc (.cells #[.slice none 0 0] 27))))
                have n5 : w.heap.size < w3.heap.size := by omega
                have n6 : w.heap.size + 1 < w3.heap.size := by omega
                refine wpIn_label ?_
                gi_wp2_with fail
                refine ⟨trivial, rfl, HMK.out.mono ?_⟩
                rintro e w4 ⟨rfl, hw4⟩
                have HW4 := Lib.hid hw4
                clear hw4
                gi_wp2_with fail
                obtain ⟨m, hm⟩ : ∃ m : Nat, most = m := ⟨most.toNat, by omega⟩
                obtain ⟨wd, hwd⟩ : ∃ wd : Nat, width = wd := ⟨width.toNat, by omega⟩
                subst hm hwd
                have hw4 := HW4.out
                have s4 : w4.heap.size = w3.heap.size + 6 := by rw [hw4]; simp
                have f4 : Fr Non w3 w4 := by rw [hw4]; exact ((((((Fr.refl _ _).alloc _).alloc _).alloc _).alloc _).alloc _).alloc _
                have al : ∀ (W : World) (o : Obj) (n : Nat), W.heap.size = n → (W.alloc o).heap[n]? = some o := fun W o n h => by rw [← h]; exact World.alloc_heap_new W o
                have e0 : w4.heap[w3.heap.size]? = some (.cells #[.slice none 0 0] 27 (0, 0)) := by rw [hw4]; exact hd_alloc (hd_alloc (hd_alloc (hd_alloc (hd_alloc (al _ _ _ (by simp))))))
                have e1 : w4.heap[w3.heap.size + 1]? = some (.cells #[.slice A l.length cap] 22 (0, 0)) := by rw [hw4]; exact hd_alloc (hd_alloc (hd_alloc (hd_alloc (al _ _ _ (by simp)))))
                have e2 : w4.heap[w3.heap.size + 2]? = some (boxI to_) := by rw [hw4]; exact hd_alloc (hd_alloc (hd_alloc (al _ _ _ (by simp))))
                have e3 : w4.heap[w3.heap.size + 3]? = some (boxI wd) := by rw [hw4]; exact hd_alloc (hd_alloc (al _ _ _ (by simp)))
                have e4 : w4.heap[w3.heap.size + 4]? = some (boxI tab) := by rw [hw4]; exact hd_alloc (al _ _ _ (by simp))
                have e5 : w4.heap[w3.heap.size + 5]? = some (boxB wrap) := by rw [hw4]; exact al _ _ _ (by simp)
                clear hw4
                refine range_law (gf := 50) (lb := #[.pointer (some ⟨w3.heap.size + 3, 0, none⟩), .pointer (some ⟨w3.heap.size + 1, 0, none⟩), .pointer (some ⟨w3.heap.size + 4, 0, none⟩), .pointer (some ⟨w3.heap.size + 5, 0, none⟩), .pointer (some ⟨w3.heap.size + 2, 0, none⟩)]) rfl (enters_of Tryd.func50 (by kernel_rfl) rfl) ?_
                intro fn
                rw [s4]
                generalize hr : Rec.mk fn _ _ _ _ _ = r
                generalize hW6 : (w4.alloc (.deferred (some []))).alloc (r.at .ready none) = W6
                have s6 : W6.heap.size = w3.heap.size + 8 := by rw [← hW6]; simp [s4]
                have f6 : Fr Non w4 W6 := by rw [← hW6]; exact ((Fr.refl _ _).alloc _).alloc _
                have bD6 : W6.heap[w3.heap.size + 6]? = some (.deferred (some [])) := by rw [← hW6]; exact hd_alloc (al _ _ _ s4)
                have b6 : W6.heap[w3.heap.size + 7]? = some (r.at .ready none) := by rw [← hW6]; exact al _ _ _ (by simp [s4])
                clear hW6
                have f36 : Fr Non w3 W6 := f4.trans f6
                have fw6 : Fr Non w W6 := HF3.out.trans f36
                have st : St1 r (w3.heap.size + 7) w.heap.size (w.heap.size + 1) w3.heap.size w.heap.size to_ m .ready none (.slice none 0 0) [] W6 :=
                  ⟨b6, f36.at HBT.out id, f36.at HBM.out id, f6.at e0 id, ⟨World.ownsRow_nil _ _ _ _, by simp⟩⟩
                have hps : r.params.size = 1 := by rw [← hr]; rfl
                have hround : ∀ (d : RowD) (v : Value) (ds : List RowD) (W : World), St1 r (w3.heap.size + 7) w.heap.size (w.heap.size + 1) w3.heap.size w.heap.size to_ m .ready none v ds W → W.heap[d.g]? = some (cellB d.row.f0) → W.heap[d.q]? = some (posB d.row.f1) → w.heap.size ≤ d.g → w.heap.size ≤ d.q → w.heap.size ≤ W.heap.size → ds.length ≤ m → _ :=
                  fun d v ds W st hg hq bg bq hb hl => round1 fn (w3.heap.size + 7) (w3.heap.size + 6) w.heap.size (w.heap.size + 1) w3.heap.size w.heap.size d v ds to_ m W r hr st.lrec st.bto st.bmost st.bout st.out hg hq bg bq hb (by omega) hl
                clear hr
                have hck := checkP_bounds HCE.out
                have hcl : (charsP l).length ≤ 1000000000000 := by
                  have h := charsP_len 1000000 l HS.out
                  have h2 := Nat.mul_le_mul_right 1000000 hll
                  omega
                have hO0 : ∀ b, OC w3.heap.size (w3.heap.size + 7) (.slice none 0 0) [] b → b = w3.heap.size ∨ b = w3.heap.size + 7 := by
                  rintro b (h | h | h | ⟨d, hd, _⟩)
                  · exact .inl h
                  · exact .inr h
                  · cases h
                  · simp at hd
                have nO : ∀ b, b ≠ w3.heap.size → b ≠ w3.heap.size + 7 → ¬ OC w3.heap.size (w3.heap.size + 7) (.slice none 0 0) [] b := fun b h1 h2 h => (hO0 b h).elim h1 h2
                have hc := rows_iter (cons1 r (w3.heap.size + 7) w.heap.size (w.heap.size + 1) w3.heap.size w.heap.size w3.heap.size to_ m (rowsE wd wrap to_ (unitsC tab (charsP l)).1) hps (by omega) (by omega) (by omega) (by omega) (by omega) (Nat.le_refl _) hround)
                  (w3.heap.size + 3) (w3.heap.size + 1) (w3.heap.size + 4) (w3.heap.size + 5) (w3.heap.size + 2) A cap l to_ tab wd wrap rfl w W6 _ ⟨_, [], rfl, st, rfl, Nat.zero_le _, by omega⟩ (by show w3.heap.size ≤ _; omega) (by show w.heap.size ≤ _; omega)
                  (f6.at e1 id) (f6.at e3 id) (f6.at e4 id) (f6.at e5 id) (f6.at e2 id) (nO _ (by omega) (by omega)) (nO _ (by omega) (by omega)) (nO _ (by omega) (by omega)) HD.out fw6.toBelow rfl
                  (fun p hp => ⟨by have := hck.2.2.2 p hp; omega, by have := hck.2.2.2 p hp; have := HS.out p hp; omega⟩) (by omega) hcl q3 q4 (by omega) (by omega)
                refine (callsIn_wide.1 hc).mono ?_
                rintro e W7 ⟨hv, O', hF, hO', hJD⟩
                refine ⟨hv, ?_⟩
                have bD7 := hF.at bD6 (nO _ (by omega) (by omega))
                have fw7 : Fr Non w W7 := (fw6.mono (fun _ _ h => h)).then hF (fun b hb h => by have := hO0 b h; omega)
                have hbad : ¬ badR (wd : Int) tab (m : Int) := by unfold badR; omega
                have hrp : rp = (collectR to_ m (rowsE wd wrap to_ (unitsC tab (charsP l)).1), 0) := by
                  rw [← HRP.out]; unfold rowsP; rw [HCE.out, if_neg (by simp), if_neg hbad, Int.toNat_natCast, Int.toNat_natCast]
                have HRP2 := Lib.hid hrp
                clear hrp
                have fin : ∀ (o : Obj) (v : Value) (ds : List RowD) (lst : LoopState) (pe : Option Code), St1 r (w3.heap.size + 7) w.heap.size (w.heap.size + 1) w3.heap.size w.heap.size to_ m lst pe v ds W7 →
                    OutAt ((W7.putObj (w3.heap.size + 7) o).putObj (w3.heap.size + 6) (.deferred none)) w.heap.size v ds ∧ Fr Non w ((W7.putObj (w3.heap.size + 7) o).putObj (w3.heap.size + 6) (.deferred none)) := by
                  intro o v ds lst pe st7
                  have g7 : Fr (fun b => b = w3.heap.size + 7 ∨ b = w3.heap.size + 6) W7 ((W7.putObj (w3.heap.size + 7) o).putObj (w3.heap.size + 6) (.deferred none)) := ((Fr.refl _ _).putObj _ _ (fun _ => .inl rfl)).putObj _ _ (fun _ => .inr rfl)
                  refine ⟨st7.out.kept g7 (fun b hb => ?_) (fun d hd => ?_), fw7.then g7 (fun b hb h => by omega)⟩
                  · obtain ⟨cur, hc⟩ := st7.out.own_block hb
                    rintro (h | h)
                    · exact ne_obj hc st7.lrec (by intro e; cases e) h
                    · exact ne_obj hc bD7 (by intro e; cases e) h
                  · obtain ⟨_, _, hg, hq⟩ := st7.out.at_ d hd
                    refine ⟨?_, ?_⟩
                    · rintro (h | h)
                      · exact ne_obj hg st7.lrec (by intro e; cases e) h
                      · exact ne_obj hg bD7 (by intro e; cases e) h
                    · rintro (h | h)
                      · exact ne_obj hq st7.lrec (by intro e; cases e) h
                      · exact ne_obj hq bD7 (by intro e; cases e) h
                rcases hJD with ⟨v, ds, hO, st7, hmap, hle, _⟩ | ⟨ys, hys, v, ds, E0, x, hO, hE, hl0, st7, hmap, _⟩
                · refine .inl ⟨st7.lrec, ?_⟩
                  obtain ⟨hout, hfr⟩ := fin (r.at .exhausted none) v ds _ _ st7
                  have k1 : (W7.putObj (w3.heap.size + 7) (r.at .exhausted none)).cell? ⟨w3.heap.size, 0, none⟩ = some v := cell_row (ho_other st7.bout (by omega)) rfl
                  have k2 : (W7.putObj (w3.heap.size + 7) (r.at .exhausted none)).heap[w3.heap.size + 6]? = some (.deferred (some [])) := ho_other bD7 (by omega)
                  generalize hW8 : W7.putObj (w3.heap.size + 7) (r.at .exhausted none) = W8
                  rw [hW8] at k1 k2 hout hfr
                  clear hW8 hc
                  have hmap' : ds.map RowD.row = rp.1 := by
                    rw [HRP2.out, hmap]
                    exact (if_pos hle).symm
                  have HM2 := Lib.hid hmap'
                  have HOUT := Lib.hid hout
                  have HFR := Lib.hid hfr
                  have K2 := Lib.hid k2
                  have hrp2 : rp.2 = 0 := by rw [HRP2.out]
                  have HR2 := Lib.hid hrp2
                  clear hmap' hmap hle hout hfr k2 hrp2
                  gi_wp2
                  refine no_goto (ends_mark2 (P := Tryd.prog) (fn := Tryd.f12) (t := 14) (u := 15) rfl K2.out ?_)
                  exact ⟨v, ds, by rw [HR2.out]; rfl, HOUT.out, HM2.out, HFR.out⟩
                · refine .inr ⟨_, st7.lrec, ?_⟩
                  obtain ⟨hout, hfr⟩ := fin (r.at .exhausted (some (.exit 0))) v ds _ _ st7
                  have k1 : (W7.putObj (w3.heap.size + 7) (r.at .exhausted (some (.exit 0)))).cell? ⟨w3.heap.size, 0, none⟩ = some v := cell_row (ho_other st7.bout (by omega)) rfl
                  have k2 : (W7.putObj (w3.heap.size + 7) (r.at .exhausted (some (.exit 0)))).heap[w3.heap.size + 6]? = some (.deferred (some [])) := ho_other bD7 (by omega)
                  generalize hW8 : W7.putObj (w3.heap.size + 7) (r.at .exhausted (some (.exit 0))) = W8
                  rw [hW8] at k1 k2 hout hfr
                  clear hW8 hc
                  have hmap' : ds.map RowD.row = rp.1 := by
                    rw [HRP2.out, hmap]
                    subst hE
                    exact (collect_cut to_ m E0 x _ hl0 hys).symm
                  have HM2 := Lib.hid hmap'
                  have HOUT := Lib.hid hout
                  have HFR := Lib.hid hfr
                  have K2 := Lib.hid k2
                  have hrp2 : rp.2 = 0 := by rw [HRP2.out]
                  have HR2 := Lib.hid hrp2
                  clear hmap' hmap hout hfr k2 hrp2
                  gi_wp2
                  refine no_goto (ends_mark2 (P := Tryd.prog) (fn := Tryd.f12) (t := 14) (u := 15) rfl K2.out ?_)
                  exact ⟨v, ds, by rw [HR2.out]; rfl, HOUT.out, HM2.out, HFR.out⟩
  · have hr : rp = ([], ce) := by rw [← HRP.out]; unfold rowsP; rw [HCE.out, if_pos hc0]
    have HR := Lib.hid hr
    have hc0' : (ce == 0) = false := by simp [hc0]
    clear hr
    gi_wp2
    refine no_goto (ends_two (P := Tryd.prog) (fn := Tryd.f12) (t := 14) (u := 15) rfl ?_)
    rw [HR.out]
    exact ⟨.slice none 0 0, [], rfl, ⟨World.ownsRow_nil _ _ _ _, by simp⟩, rfl, HF3.out⟩
end Go.Proofs.YtppjgofjjcdcdaaDoor
