/- Of guards, and of the first elements of a slice. -/
import Derived.Test.YtppjgofjjcdcdaaDoorRows
import Derived.Test.YtppjgofjjcdcdaaDoorJE
import Derived.Lib.LaidU8T
import Derived.PinnedBridge
import Derived.LaidMore
import Derived.Lay
import Derived.ProofKit
import Derived.Test.YtppjgofjjcdcdaaDoorJF
import Derived.ChangeArms
import Derived.Carry
import Derived.OpenShut
set_option linter.unusedVariables false
set_option linter.unusedSimpArgs false
/- What the rows' condition on the tables gives the walks; the witness' heap. -/
namespace Go.Proofs.YtppjgofjjcdcdaaDoor
open Go.Lib
abbrev laid2 : List (String × DataW Unit) := [("unicode/utf8.acceptRanges", Rows.laid_unicode_utf8_acceptRanges), ("unicode/utf8.first", Rows.laid_unicode_utf8_first)]
theorem accept_eq : (Rows.laid_unicode_utf8_acceptRanges : DataW Unit) = acceptData := by kernel_rfl
theorem first_eq : Rows.laid_unicode_utf8_first = firstData := Pinned.utf8First_eq
theorem u8extra : U8Extra Tryd.prog Tryd.laysValid_ren where
  n3 := by kernel_rfl
  n4 := by kernel_rfl
  y3 := by kernel_rfl
  y4 := by kernel_rfl
  c5 := by kernel_rfl
  c119 := by kernel_rfl
  c138 := by kernel_rfl
theorem tabs_of_laid {W : World} (h : laidMetH Tryd.prog laid2 W) : Tabs W := by
  rw [MakeChecks.laidMetH_plain _ _ _ (by kernel_rfl)] at h
  refine utf8Tabs_of_readsT (U8Types.of196 Tryd.laysValid) u8extra ?_ ?_
  · rw [← first_eq]; exact laidMet.reads h (by simp [laid2])
  · rw [← accept_eq]; exact laidMet.reads h (by simp [laid2])
theorem own : ownKnob Tryd.prog.godebug = none := by kernel_rfl
theorem laidOut : laidOutB Tryd.prog = true := by kernel_rfl
end Go.Proofs.YtppjgofjjcdcdaaDoor

/- Arguments, opened: slices of structs as the kit's kinds read them. -/
namespace Go.Proofs.YtppjgofjjcdcdaaDoor
open PLayoutRows
open Go.RowKit Go.Proofs.YtppjgofjjcdcdaaDoorW.PrintWords
section
variable {H : Type} {enc : TypeId × Value → H} {P : Program} {W : World} {spare : Nat → Bool} {held : Bool}
/-- Whatever reads as a value of the type t is read by the kind d. -/
def Opens (enc : TypeId × Value → H) (P : Program) (W : World) (spare : Nat → Bool) (held : Bool) {α : Type} (t : TypeId) (d : Kd α) : Prop :=
  ∀ (fuel : Nat) (cs : List Value) (x : DataW H × List MemPlace), DataW.trod enc P W 0 spare held fuel t cs = some x → ∃ y, d.K W y cs
theorem opens_int {k : IntKind} {t : TypeId} (ht : P.underlying t = some (.int k)) : Opens enc P W spare held t (Kd.int k) := by
  intro fuel cs x h
  obtain ⟨n, rfl, _⟩ := DataW.trod_int ht h
  exact ⟨n, rfl⟩
theorem opens_bool {t : TypeId} (ht : P.underlying t = some .bool) : Opens enc P W spare held t Kd.bool := by
  intro fuel cs x h
  obtain ⟨n, rfl, _⟩ := DataW.trod_bool ht h
  exact ⟨n, rfl⟩
theorem opens_string {t : TypeId} (ht : P.underlying t = some .string) : Opens enc P W spare held t Kd.string := by
  intro fuel cs x h
  obtain ⟨n, rfl, _⟩ := DataW.trod_string ht h
  exact ⟨n, rfl⟩
theorem open_rows {α : Type} {d : Kd α} {t e : TypeId} (ht : P.underlying t = some (.slice e)) (hsz : P.cellsOf e = d.sz) (hd : Opens enc P W spare held e d) {fuel : Nat} {cs : List Value} {x : DataW H × List MemPlace} (h : DataW.trod enc P W 0 spare held fuel t cs = some x) :
    ∃ A n c xs, cs = [.slice A n c] ∧ n ≤ c ∧ xs.length = n ∧ d.C W A n xs := by
  rcases DataW.trod_slice ht h with ⟨rfl, _⟩ | ⟨a, len, cap, elems, rest, m, _, rfl, _, _, hlc, hcm, hel, hall, _⟩
  · exact ⟨none, 0, 0, [], rfl, Nat.le_refl _, rfl, rfl, by omega, fun h => absurd h (by omega)⟩
  · have hy : ∀ i : Fin len, ∃ y c, c.length = d.sz ∧ d.K W y c ∧ ∀ j u, c[j]? = some u → W.cell? (a.add (i.val * d.sz + j)) = some u := by
      intro i
      have h1 := hall i.val i.isLt
      have h2 : elems[i.val]? = some (elems[i.val]'(by omega)) := List.getElem?_eq_getElem (by have := i.isLt; omega)
      rw [h2, Option.bind_eq_some_iff] at h1
      obtain ⟨c, hc, htr⟩ := h1
      obtain ⟨y, hK⟩ := hd _ _ _ htr
      have hcs := World.cells?_some hc
      refine ⟨y, c, d.K_len hK, hK, fun j u hu => ?_⟩
      have hj : j < c.length := (List.getElem?_eq_some_iff.1 hu).1
      have h3 := hcs.2.2 j (by have := hcs.2.1; omega)
      rw [Addr.add_add, hsz] at h3
      rw [h3]; exact hu
    refine ⟨some a, len, cap, List.ofFn fun i => (hy i).choose, rfl, hlc, by simp, by simp, by unfold maxLen at hcm; omega, fun _ => ⟨a, rfl, fun j p hp => ?_⟩⟩
    have hj : j < len := by have := (List.getElem?_eq_some_iff.1 hp).1; simpa using this
    obtain ⟨c, h1, h2, h3⟩ := (hy ⟨j, hj⟩).choose_spec
    have hpe : p = (hy ⟨j, hj⟩).choose := by
      have := (List.getElem?_eq_some_iff.1 hp).2
      simpa using this.symm
    exact ⟨c, h1, hpe ▸ h2, h3⟩
theorem opens_rows {α : Type} {d : Kd α} {t e : TypeId} (ht : P.underlying t = some (.slice e)) (hsz : P.cellsOf e = d.sz) (hd : Opens enc P W spare held e d) : Opens enc P W spare held t (Kd.slice e d) := by
  intro fuel cs x h
  obtain ⟨A, n, c, xs, rfl, hnc, hn, hC⟩ := open_rows ht hsz hd h
  subst hn
  exact ⟨xs, A, c, rfl, hnc, hC⟩
theorem open_arg {α : Type} {d : Kd α} {t e : TypeId} (ht : P.underlying t = some (.slice e)) (hsz : P.cellsOf e = d.sz) (hd : Opens enc P W spare held e d) {A : Option Addr} {n c : Nat} {dd : DataW H} {ps : List MemPlace} (h : DataW.Trod enc P W 0 spare held t (.slice A n c) dd ps) :
    ∃ xs, xs.length = n ∧ n ≤ c ∧ d.C W A n xs := by
  obtain ⟨fuel, hf⟩ := h
  obtain ⟨A', n', c', xs, he, hnc, hn, hC⟩ := open_rows ht hsz hd hf
  simp [Value.cells] at he
  obtain ⟨rfl, rfl, rfl⟩ := he
  exact ⟨xs, hn, hnc, hC⟩
theorem pair_K {α β : Type} {a : Kd α} {b : Kd β} {cs : List Value} (s : Nat) (ha : ∃ y, a.K W y (cs.take s)) (hb : ∃ z, b.K W z (cs.drop s)) : ∃ p, (Kd.pair a b).K W p cs := by
  obtain ⟨y, hy⟩ := ha
  obtain ⟨z, hz⟩ := hb
  exact ⟨(y, z), cs.take s, cs.drop s, (List.take_append_drop s cs).symm, hy, hz⟩
/-- A field of a struct that reads. -/
theorem field_K {fs : Array Field} {t : TypeId} {α : Type} {d : Kd α} (ht : P.underlying t = some (.struct fs)) {fuel : Nat} {cs : List Value} {x : DataW H × List MemPlace} (h : DataW.trod enc P W 0 spare held fuel t cs = some x) (i o : Nat) {ty : TypeId} {s : Nat} (hf : (fs[i]?).map (fun f => (f.offset, f.type)) = some (o, ty)) (hs : P.cellsOf ty = s) (hd : Opens enc P W spare held ty d) :
    ∃ y, d.K W y ((cs.drop o).take s) := by
  subst hs
  rw [Option.map_eq_some_iff] at hf
  obtain ⟨f, hf, he⟩ := hf
  cases he
  obtain ⟨xs, n, _, _, _, hl, hall⟩ := DataW.trod_struct ht h
  have hi : i < fs.size := (Array.getElem?_eq_some_iff.1 hf).1
  have h1 := hall i f hf
  rw [List.getElem?_eq_getElem (by omega)] at h1
  exact hd _ _ _ h1
end
theorem cellsOf3 : Tryd.prog.cellsOf 3 = 1 := by kernel_rfl
theorem cellsOf4 : Tryd.prog.cellsOf 4 = 1 := by kernel_rfl
theorem cellsOf9 : Tryd.prog.cellsOf 9 = 1 := by kernel_rfl
theorem cellsOf53 : Tryd.prog.cellsOf 53 = 5 := by kernel_rfl
theorem cellsOf55 : Tryd.prog.cellsOf 55 = 9 := by kernel_rfl
theorem cellsOf78 : Tryd.prog.cellsOf 78 = 6 := by kernel_rfl
theorem cellsOf39 : Tryd.prog.cellsOf 39 = 5 := by kernel_rfl
theorem cellsOf37 : Tryd.prog.cellsOf 37 = 1 := by kernel_rfl
theorem cellsOf36 : Tryd.prog.cellsOf 36 = 1 := by kernel_rfl
section
variable {H : Type} {enc : TypeId × Value → H} {W : World} {spare : Nat → Bool} {held : Bool}
theorem last_take {cs : List Value} {o s n : Nat} (hl : cs.length = n) (hn : n = o + s) : (cs.drop o).take s = cs.drop o := List.take_of_length_le (by simp; omega)
theorem opens_look : Opens enc Tryd.prog W spare held 53 k53 := by
  intro fuel cs x h
  have hl : cs.length = 5 := by obtain ⟨_, _, _, _, hl, _⟩ := DataW.trod_struct Tryd.underlying53 h; rw [hl, cellsOf53]
  have f0 := field_K Tryd.underlying53 h 0 0 rfl cellsOf3 (opens_int Tryd.underlying3)
  have f1 := field_K Tryd.underlying53 h 1 1 rfl cellsOf3 (opens_int Tryd.underlying3)
  have f2 := field_K Tryd.underlying53 h 2 2 rfl cellsOf4 (opens_bool Tryd.underlying4)
  have f3 := field_K Tryd.underlying53 h 3 3 rfl cellsOf4 (opens_bool Tryd.underlying4)
  have f4 := field_K Tryd.underlying53 h 4 4 rfl cellsOf4 (opens_bool Tryd.underlying4)
  rw [List.drop_zero] at f0
  rw [last_take hl rfl] at f4
  obtain ⟨y, hy⟩ := pair_K 1 f0 (pair_K 1 f1 (pair_K 1 (by rw [List.drop_drop]; exact f2) (pair_K 1 (by rw [List.drop_drop, List.drop_drop]; exact f3) (by rw [List.drop_drop, List.drop_drop, List.drop_drop]; exact f4))))
  exact ⟨⟨y.1, y.2.1, y.2.2.1, y.2.2.2.1, y.2.2.2.2⟩, hy⟩
theorem opens_part : Opens enc Tryd.prog W spare held 55 k55 := by
  intro fuel cs x h
  have hl : cs.length = 9 := by obtain ⟨_, _, _, _, hl, _⟩ := DataW.trod_struct Tryd.underlying55 h; rw [hl, cellsOf55]
  have f0 := field_K Tryd.underlying55 h 0 0 rfl cellsOf3 (opens_int Tryd.underlying3)
  have f1 := field_K Tryd.underlying55 h 1 1 rfl cellsOf3 (opens_int Tryd.underlying3)
  have f2 := field_K Tryd.underlying55 h 2 2 rfl cellsOf3 (opens_int Tryd.underlying3)
  have f3 := field_K Tryd.underlying55 h 3 3 rfl cellsOf9 (opens_string Tryd.underlying9)
  have f4 := field_K Tryd.underlying55 h 4 4 rfl cellsOf53 opens_look
  rw [List.drop_zero] at f0
  rw [last_take hl rfl] at f4
  obtain ⟨y, hy⟩ := pair_K 1 f0 (pair_K 1 f1 (pair_K 1 (by rw [List.drop_drop]; exact f2) (pair_K 1 (by rw [List.drop_drop, List.drop_drop]; exact f3) (by rw [List.drop_drop, List.drop_drop, List.drop_drop]; exact f4))))
  exact ⟨⟨y.1, y.2.1, y.2.2.1, y.2.2.2.1, y.2.2.2.2⟩, hy⟩
theorem opens_cell : Opens enc Tryd.prog W spare held 78 k78 := by
  intro fuel cs x h
  have hl : cs.length = 6 := by obtain ⟨_, _, _, _, hl, _⟩ := DataW.trod_struct Tryd.underlying78 h; rw [hl, cellsOf78]
  have f0 := field_K Tryd.underlying78 h 0 0 rfl cellsOf3 (opens_int Tryd.underlying3)
  have f4 := field_K Tryd.underlying78 h 1 1 rfl cellsOf53 opens_look
  rw [List.drop_zero] at f0
  rw [last_take hl rfl] at f4
  obtain ⟨y, hy⟩ := pair_K 1 f0 f4
  exact ⟨⟨y.1, y.2⟩, hy⟩
theorem opens_row : Opens enc Tryd.prog W spare held 39 k39 := by
  intro fuel cs x h
  have hl : cs.length = 5 := by obtain ⟨_, _, _, _, hl, _⟩ := DataW.trod_struct Tryd.underlying39 h; rw [hl, cellsOf39]
  have f0 := field_K Tryd.underlying39 h 0 0 rfl cellsOf36 (opens_rows Tryd.underlying36 cellsOf78 opens_cell)
  have f1 := field_K Tryd.underlying39 h 1 1 rfl cellsOf37 (opens_rows Tryd.underlying37 cellsOf3 (opens_int Tryd.underlying3))
  have f2 := field_K Tryd.underlying39 h 2 2 rfl cellsOf3 (opens_int Tryd.underlying3)
  have f3 := field_K Tryd.underlying39 h 3 3 rfl cellsOf3 (opens_int Tryd.underlying3)
  have f4 := field_K Tryd.underlying39 h 4 4 rfl cellsOf4 (opens_bool Tryd.underlying4)
  rw [List.drop_zero] at f0
  rw [last_take hl rfl] at f4
  obtain ⟨y, hy⟩ := pair_K 1 f0 (pair_K 1 f1 (pair_K 1 (by rw [List.drop_drop]; exact f2) (pair_K 1 (by rw [List.drop_drop, List.drop_drop]; exact f3) (by rw [List.drop_drop, List.drop_drop, List.drop_drop]; exact f4))))
  exact ⟨⟨y.1, y.2.1, y.2.2.1, y.2.2.2.1, y.2.2.2.2⟩, hy⟩
end
end Go.Proofs.YtppjgofjjcdcdaaDoor

/- Of guards, and of the first elements of a slice. -/
namespace Go.Proofs.YtppjgofjjcdcdaaDoor
open PLayoutRows
open Go.RowKit Go.Proofs.YtppjgofjjcdcdaaDoorW.PrintWords
theorem wpList_pass {P : Program} {ops : Array Oper} {Q : Exit → Act → World → Prop} {a : Act} {w : World} {rest : List Oper} {d : Option Tmp} {op : Op} {ty : TypeId} {pos : String} {af : Array Edge} {g : Nat × Bool}
    (hw : Region.wanted ⟨d, op, ty, pos, af, some g⟩ (yielded ops a.tmps) = false) (he : a.put d undef = a) (h : wpList P ops Q rest a w) : wpList P ops Q (⟨d, op, ty, pos, af, some g⟩ :: rest) a w :=
  wpList_skip hw (by rw [show (Oper.mk d op ty pos af (some g)).dst = d from rfl, he]; exact h)
theorem C_take {α : Type} {d : Kd α} {w : World} {A : Option Addr} {n k : Nat} {xs : List α} (h : Kd.C d w A n xs) (hk : k ≤ n) : Kd.C d w A k (xs.take k) := by
  obtain ⟨h1, h2, h3⟩ := h
  refine ⟨by rw [List.length_take, h1]; omega, by omega, fun h0 => ?_⟩
  obtain ⟨ad, hA, hj⟩ := h3 (by omega)
  refine ⟨ad, hA, fun j p hp => hj j p ?_⟩
  have hjk : j < k := by have := (List.getElem?_eq_some_iff.1 hp).1; rw [List.length_take] at this; omega
  rw [List.getElem?_take_of_lt hjk] at hp
  exact hp
end Go.Proofs.YtppjgofjjcdcdaaDoor
