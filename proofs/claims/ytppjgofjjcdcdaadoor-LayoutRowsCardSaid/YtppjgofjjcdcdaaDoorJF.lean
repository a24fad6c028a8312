/- copyistkit.SameCells, SameRows: of equal lists they say true. -/
import Derived.Test.YtppjgofjjcdcdaaDoorJB
import Derived.Laws.Cover4
import Derived.Test.YtppjgofjjcdcdaaDoorJE
import Derived.Deep.RegionHeld3
import Derived.Test.YtppjgofjjcdcdaaDoorPLayoutRowsx3
import Derived.Test.YtppjgofjjcdcdaaDoorShelf
import Derived.Test.YtppjgofjjcdcdaaDoorPLayoutRowsx2
set_option linter.unusedVariables false
set_option linter.unusedSimpArgs false
/- copyistlaw35.text: the characters of cells as a string. -/
namespace Go.Proofs.YtppjgofjjcdcdaaDoor
open PLayoutRows
open Go.RowKit Go.Proofs.YtppjgofjjcdcdaaDoorW.PrintWords
def runeP (c : Cell) : List Int := if c.f0 = 32 then [46] else if c.f0 = -1 then [] else [wrap32 c.f0]
def runesT (cs : List Cell) : List Int := cs.flatMap runeP
def textP (cs : List Cell) : ByteArray := runesBytes (runesT cs)
theorem info21r : (Tryd.prog.info? 21).map (fun i => (i.zero, i.size, i.bytes)) = some (some (.int .i32 0), 1, 4) := by kernel_rfl
theorem runesT_len (cs : List Cell) : (runesT cs).length ≤ cs.length := by
 induction cs with
 | nil => simp [runesT]
 | cons c cs ih =>
  have h : runesT (c :: cs) = runeP c ++ runesT cs := rfl
  have h1 : (runeP c).length ≤ 1 := by unfold runeP; split <;> (try split) <;> simp
  rw [h, List.length_append, List.length_cons]; omega
theorem runesT_take (cs : List Cell) (k : Nat) (h : k < cs.length) : runesT (cs.take (k + 1)) = runesT (cs.take k) ++ runeP (rd_T78 cs k) := by
 rw [List.take_succ_eq_append_getElem h]; simp only [runesT, List.flatMap_append, List.flatMap_cons, List.flatMap_nil, List.append_nil]; congr 2; simp [rd_T78, h]
theorem frb {w w' : World} (h : Fr Non w w') : Below w.heap.size w w' := h.below (Nat.le_refl _) (fun _ _ h => h)
theorem bfr {w w' : World} (h : Below w.heap.size w w') : Fr Non w w' := Fr.of_below h (fun b h1 h2 => by omega)
theorem b_size {w w' : World} (h : Below w.heap.size w w') : w.heap.size ≤ w'.heap.size := h.size
/-- What the loop's head holds. -/
structure TxtS (cs : List Cell) (w : World) (k : Nat) (v : Value) (wr : World) : Prop where
 own : (Kd.int .i32).R 21 wr w.heap.size (fun _ => True) v (runesT (cs.take k))
 fr : Below w.heap.size w wr
set_option maxHeartbeats 1600000 in
set_option maxRecDepth 100000 in
theorem text_any (A : Option Addr) (c : Nat) (cs : List Cell) (w : World) (hC : Kd.C k78 w A cs.length cs) (hl : cs.length ≤ 1000000) :
  Calls Tryd.prog 49 #[.slice A cs.length c] w fun e w' => e = .returned (.string (textP cs)) ∧ Below w.heap.size w w' := by
 obtain ⟨len, hlen⟩ : ∃ len, cs.length = len := ⟨_, rfl⟩
 have HC := Lib.hid hC
 rw [hlen] at hl HC ⊢
 have HL := Lib.hid hlen
 clear hC hlen
 go_enter Tryd.func49, Tryd.ntmps49
 go_wp2
 go_loopw [3, 4] (fun v i wr => ∃ k : Nat, k ≤ len ∧ i = .int .i64 k ∧ TxtS cs w k v wr) (fun _ i _ => len - (intOf i).toNat)
 case atStart => exact ⟨0, Nat.zero_le _, rfl, Kd.R_nil _ _ _ _ _, Below.refl _ _⟩
 case round =>
  obtain ⟨k, hk, rfl, hS⟩ := hrel
  by_cases hlt : k < len
  ·have hkl : k < cs.length := by have := HL.out; omega
   have hC2 := Kd.C_below HC.out hS.fr
   have hst := runesT_take cs k hkl
   have hb := runesT_len (cs.take k)
   have hb2 : (cs.take k).length ≤ k := List.length_take_le _ _
   have hsz := b_size hS.fr
   have HS := Lib.hid hS
   clear hS
   obtain ⟨ad, rfl, hx0, -, -, -, -, -⟩ := at_T78 hC2 (k : Int) (by omega) (by omega)
   obtain ⟨x, hx⟩ : ∃ x, rd_T78 cs k = x := ⟨_, rfl⟩
   rw [hx, Int.toNat_natCast] at hx0
   rw [hx] at hst
   have HST := Lib.hid hst
   clear hst hx hC2
   by_cases h1 : x.f0 = 32
   ·have h1b : (x.f0 == 32) = true := by simp [h1]
    have hr : runeP x = [46] := by simp [runeP, h1]
    have HR := Lib.hid hr
    clear hr
    go_wp2_with ((at_builtin; refine Kd.R_append (Kd.int .i32) (w0 := w) w.heap.size rfl (.tmp 27) (.tmp 28) 110 21 (.int .i32 0) 4 rfl Tryd.underlying110 info21r rfl (by decide) (by omega) u3 (runesT (cs.take k)) 46 [.int .i32 46] (fun _ => True) (fun _ => False) rfl rfl rfl (fun _ hk => hk.elim) (fun _ _ => trivial) HS.out.own HS.out.fr hsz (by omega) ?_; intro v1 w1 hO1 hB1 _ _; have HO1 := Lib.hid hO1; have HB1 := Lib.hid hB1; clear hO1 hB1))
    go_roundw
    case rel => exact ⟨k + 1, by omega, by go_num, by rw [HST.out, HR.out]; exact HO1.out, HB1.out⟩
    case measure => simp [intOf]; omega
   ·by_cases h2 : x.f0 = -1
    ·have h1b : (x.f0 == 32) = false := by simp [h1]
     have h2b : (x.f0 == -1) = true := by simp [h2]
     have hr : runeP x = [] := by simp [runeP, h2]
     have HR := Lib.hid hr
     clear hr
     go_wp2
     go_roundw
     case rel => exact ⟨k + 1, by omega, by go_num, by rw [HST.out, HR.out, List.append_nil]; exact HS.out.own, HS.out.fr⟩
     case measure => simp [intOf]; omega
    ·have h1b : (x.f0 == 32) = false := by simp [h1]
     have h2b : (x.f0 == -1) = false := by simp [h2]
     have hr : runeP x = [wrap32 x.f0] := by simp [runeP, h1, h2]
     have HR := Lib.hid hr
     clear hr
     go_wp2_with ((at_builtin; refine Kd.R_append (Kd.int .i32) (w0 := w) w.heap.size rfl (.tmp 16) (.tmp 23) 110 21 (.int .i32 0) 4 rfl Tryd.underlying110 info21r rfl (by decide) (by omega) u3 (runesT (cs.take k)) (wrap32 x.f0) [.int .i32 (wrap32 x.f0)] (fun _ => True) (fun _ => False) rfl rfl rfl (fun _ hk => hk.elim) (fun _ _ => trivial) HS.out.own HS.out.fr hsz (by omega) ?_; intro v1 w1 hO1 hB1 _ _; have HO1 := Lib.hid hO1; have HB1 := Lib.hid hB1; clear hO1 hB1))
     go_roundw
     case rel => exact ⟨k + 1, by omega, by go_num, by rw [HST.out, HR.out]; exact HO1.out, HB1.out⟩
     case measure => simp [intOf]; omega
  ·have hkl : k = len := by omega
   subst hkl
   obtain ⟨hO, hB⟩ := hS
   rw [List.take_of_length_le (by have := HL.out; omega)] at hO
   obtain ⟨A', c', rfl, hc', hCr⟩ := Kd.R_reads hO
   have hcv : (convert 110 9 (.slice A' (runesT cs).length c')).run Tryd.prog wr = .ok (.string (textP cs)) wr := by
    rcases Nat.eq_zero_or_pos (runesT cs).length with h0 | h0
    ·have ht : textP cs = ByteArray.empty := by unfold textP; rw [List.length_eq_zero_iff.1 h0]; rfl
     rw [List.length_eq_zero_iff.1 h0, ht]
     cases A' with
     | none => exact run_convert_runes_nil wr _ _ _ _ _ Tryd.underlying110 Tryd.underlying21 Tryd.underlying9
     | some a =>
      have h := run_convert_runes wr 110 9 _ a 0 c' [] (by simp) Tryd.underlying110 Tryd.underlying21 Tryd.underlying9 (by intro j hj; simp at hj)
      exact h
    ·obtain ⟨_, _, hA⟩ := hCr
     obtain ⟨a, rfl, hj⟩ := hA h0
     have h := run_convert_runes wr 110 9 _ a (runesT cs).length c' (runesT cs) (Nat.le_refl _) Tryd.underlying110 Tryd.underlying21 Tryd.underlying9 (fun j hj' => by
      obtain ⟨cc, _, he, hcell⟩ := hj j _ (List.getElem?_eq_getElem hj')
      have he' : cc = [.int .i32 (runesT cs)[j]] := he
      have := hcell 0 (.int .i32 (runesT cs)[j]) (by rw [he']; rfl)
      simpa [hj', Kd.int, Kd.scalar] using this)
     rw [List.take_length] at h
     exact h
   have HB := Lib.hid hB
   clear hO hB hCr
   go_wp2
   go_ret
   exact ⟨rfl, HB.out⟩
end Go.Proofs.YtppjgofjjcdcdaaDoor

/- copyistlaw35.told: rows laid out and compared with texts; rows as the kit reads them. -/
namespace Go.Proofs.YtppjgofjjcdcdaaDoor
open PLayoutRows
open Go.RowKit Go.Proofs.YtppjgofjjcdcdaaDoorW.PrintWords
theorem flat_take {α : Type} (f : α → List Value) (n : Nat) (hf : ∀ x, (f x).length = n) : ∀ (l : List α) (j : Nat) (x : α), l[j]? = some x → ((l.flatMap f).drop (j * n)).take n = f x
 | [], j, x, h => by simp at h
 | y :: l, 0, x, h => by
  simp at h; subst h
  rw [Nat.zero_mul, List.drop_zero, List.flatMap_cons, List.take_append_of_le_length (by rw [hf]; exact Nat.le_refl _), ← hf y, List.take_length]
 | y :: l, j + 1, x, h => by
  have ih := flat_take f n hf l j x (by simpa using h)
  rw [List.flatMap_cons, List.drop_append, List.drop_of_length_le (by rw [hf, Nat.succ_mul]; omega), hf, List.nil_append, show (j + 1) * n - n = j * n by rw [Nat.succ_mul]; omega]
  exact ih
theorem flat_len' {α : Type} (f : α → List Value) (n : Nat) (hf : ∀ x, (f x).length = n) : ∀ (l : List α), (l.flatMap f).length = l.length * n
 | [] => by simp
 | y :: l => by rw [List.flatMap_cons, List.length_append, hf, flat_len' f n hf l, List.length_cons, Nat.succ_mul]; omega
theorem block_reads {α : Type} {R : α → List Value → Prop} {W : World} {g : Nat} {t : TypeId} {fr : Nat × Nat} (f : α → List Value) (n : Nat) (hf : ∀ x, (f x).length = n) (hR : ∀ x, R x (f x)) (l : List α) (hl : l.length ≤ 9223372036854775807)
  (h : W.heap[g]? = some (.cells (l.flatMap f).toArray t fr)) : ReadsRow R n W (some ⟨g, 0, none⟩) l.length l := by
 refine ⟨rfl, hl, fun _ => ⟨_, rfl, fun j p hp => ⟨f p, hf p, hR p, fun i u hu => ?_⟩⟩⟩
 have hadd : (⟨g, 0, none⟩ : Addr).add (j * n + i) = ⟨g, j * n + i, none⟩ := by unfold Addr.add; split <;> simp_all
 rw [hadd]
 refine cell_row h ?_
 have hi : i < n := by have := (List.getElem?_eq_some_iff.1 hu).1; rw [hf] at this; exact this
 have h1 := flat_take f n hf l j p hp
 rw [List.getElem?_toArray]
 have h2 : (((l.flatMap f).drop (j * n)).take n)[i]? = some u := by rw [h1]; exact hu
 rw [List.getElem?_take_of_lt hi, List.getElem?_drop] at h2
 exact h2
theorem cellB_C {W : World} {g : Nat} {cs : List Cell} (h : W.heap[g]? = some (cellB cs)) (hl : cs.length ≤ 9223372036854775807) : Kd.C k78 W (some ⟨g, 0, none⟩) cs.length cs :=
 block_reads cellV 6 (fun _ => rfl) (fun x => k78_mk W x) cs hl h
theorem posB_C {W : World} {q : Nat} {P : List Int} (h : W.heap[q]? = some (posB P)) (hl : P.length ≤ 9223372036854775807) : Kd.C (Kd.int .i64) W (some ⟨q, 0, none⟩) P.length P :=
 block_reads (R := (Kd.int .i64).K W) (fun z => [Value.int .i64 z]) 1 (fun _ => rfl) (fun _ => rfl) P hl (by
  have e : ∀ P : List Int, P.flatMap (fun z => [Value.int .i64 z]) = P.map (Value.int .i64) := fun P => by induction P with | nil => rfl | cons z P ih => rw [List.flatMap_cons, ih]; rfl
  rw [e]; exact h)
theorem OutAt.toC {W : World} {base : Nat} {v : Value} {ds : List RowD} (h : OutAt W base v ds) (hd : ∀ d ∈ ds, d.row.f0.length ≤ 9223372036854775807 ∧ d.row.f1.length ≤ 9223372036854775807) :
  ∃ A c, v = .slice A ds.length c ∧ ds.length ≤ c ∧ Kd.C k39 W A ds.length (ds.map RowD.row) := by
 have hK : ∀ d ∈ ds, k39.K W d.row (rowV d) := by
  intro d hm
  obtain ⟨_, _, h3, h4⟩ := h.at_ d hm
  exact k39_mk W d.row (Nat.le_refl _) (cellB_C h3 (hd d hm).1) (Nat.le_refl _) (posB_C h4 (hd d hm).2)
 have hr : Reps (k39.K W) 5 (ds.map RowD.row) (rowsV ds) := by
  refine ⟨by rw [rowsV_len, List.length_map], fun j p hp => ?_⟩
  rw [List.getElem?_map, Option.map_eq_some_iff] at hp
  obtain ⟨d, hd', rfl⟩ := hp
  rw [show (rowsV ds).drop (j * 5) = (ds.flatMap rowV).drop (j * 5) from rfl, flat_take rowV 5 (fun _ => rfl) ds j d hd']
  exact hK d (List.mem_of_getElem? hd')
 have ho : OwnRow (k39.K W) 39 5 W base v (ds.map RowD.row) := ⟨rowsV ds, by rw [List.length_map]; exact h.own, hr⟩
 obtain ⟨A, c, he, hl, hrd⟩ := OwnRow.reads ho
 rw [List.length_map] at he hl hrd
 exact ⟨A, c, he, hl, hrd⟩
theorem below_on {a b c : World} (h : Below a.heap.size a b) (k : Below b.heap.size b c) : Below a.heap.size a c := h.trans (k.mono h.size)
theorem upon_id {P : Program} {o : Oper} {a : Act} {K : Act → World → Prop} {Q : Exit → Act → World → Prop} {r : Result Next} (h : o.upon P a K Q r) : o.upon P a K Q r := h
theorem ret_v {v : Value} {A : Option Addr} {n c m : Nat} (h : v = .slice A n c) (hm : n = m) : Ending.returned (.slice A m c) = .returned v := by rw [h, hm]
set_option maxHeartbeats 1600000 in
set_option maxRecDepth 100000 in
theorem told_yes (A : Option Addr) (cap : Nat) (l : List Part) (to_ : Int) (wrap : Bool) (Aw : Option Addr) (cw : Nat) (wants : List ByteArray) (rs : List Row) (w : World) (hd : Kd.C k55 w A l.length l) (hT : Tabs w) (hs : ∀ p ∈ l, p.f3.size ≤ 1000000) (hll : l.length ≤ 1000)
  (hW : Kd.C Kd.string w Aw wants.length wants) (hr : rowsP l 1 to_ 8 4 wrap 100 = (rs, 0)) (hn : rs.length = wants.length) (hlen : ∀ r ∈ rs, r.f0.length ≤ 1000000 ∧ r.f1.length ≤ 1000000) (ht : ∀ k, k < wants.length → textP (rs.getD k z39).f0 = wants.getD k ⟨#[]⟩) :
  Calls Tryd.prog 32 #[.slice A l.length cap, .int .i64 to_, .bool wrap, .slice Aw wants.length cw] w fun e w' => ∃ v ds, e = .returned v ∧ OutAt w' w.heap.size v ds ∧ ds.map RowD.row = rs ∧ Fr Non w w' := by
 have HROWS := Lib.hid (fun W (h : Below w.heap.size w W) => callsIn_wide.1 (rows_any A cap l 1 to_ 8 4 wrap 100 W (Kd.C_below hd h) (hT.below h) hs hll))
 rw [hr] at HROWS
 obtain ⟨m, hm⟩ : ∃ m, wants.length = m := ⟨_, rfl⟩
 have hmb : m ≤ 9223372036854775807 := by have := hW.2.1; omega
 have HW := Lib.hid hW
 have HN := Lib.hid hn
 have HLEN := Lib.hid hlen
 have HTX := Lib.hid ht
 have HM := Lib.hid hm
 clear hd hT hs hll hW hr hn hlen ht
 rw [hm]
 clear hm
 go_enter Tryd.func32, Tryd.ntmps32
 go_wp2_with (go_at_call 12; refine (HROWS.out _ (Below.refl _ _)).mono ?_; rintro e w1 ⟨v, ds, rfl, ho, hmap, hf⟩)
 have hds : ds.length = m := by rw [← HM.out, ← HN.out, ← hmap, List.length_map]
 have hmem : ∀ d ∈ ds, d.row ∈ rs := fun d h => by rw [← hmap]; exact List.mem_map_of_mem h
 obtain ⟨A1, c1, rfl, hc1, hC1⟩ := ho.toC (fun d h => by have := HLEN.out _ (hmem d h); omega)
 rw [hmap] at hC1
 have HO := Lib.hid ho
 have HMAP := Lib.hid hmap
 have HF := Lib.hid hf
 have HC := Lib.hid hC1
 have HDS := Lib.hid hds
 clear ho hmap hf hC1 hmem
 rw [hds] at HC HO ⊢
 clear hds
 go_wp2_with (with_reducible refine upon_id ?_; go_simp)
 go_loopw [11] (fun i wr => ∃ k : Nat, k ≤ m ∧ i = .int .i64 k ∧ Below w1.heap.size w1 wr) (fun i _ => m - (intOf i).toNat)
 case atStart => exact ⟨0, Nat.zero_le _, rfl, Below.refl _ _⟩
 case round =>
  obtain ⟨k, hk, rfl, hB⟩ := hrel
  by_cases hlt : k < m
  ·have hC2 := Kd.C_below HC.out hB
   have hW2 := Kd.C_below (Kd.C_below HW.out HF.out.toBelow) hB
   rw [HM.out] at hW2
   obtain ⟨ad, A0, c0, A2, c2, rfl, hx0, -, -, -, -, -, hg0, -, -⟩ := at_T39 hC2 (k : Int) (by omega) (by omega)
   obtain ⟨ax, rfl, hy⟩ := Kd.at_string hW2 (k : Int) (by omega) (by omega)
   have hlen0 : (rd_T39 rs (k : Int)).f0.length ≤ 1000000 := by
    have hkr : k < rs.length := by have := HN.out; have := HM.out; omega
    have := (HLEN.out (rs[k]) (List.getElem_mem hkr)).1
    simpa [rd_T39, hkr] using this
   have htx : textP (rd_T39 rs (k : Int)).f0 = rdOf ByteArray.empty wants (k : Int) := HTX.out k (by have := HM.out; omega)
   rw [Int.toNat_natCast] at hx0 hy
   obtain ⟨cs, hcs⟩ : ∃ cs, (rd_T39 rs (k : Int)).f0 = cs := ⟨_, rfl⟩
   obtain ⟨ws, hws⟩ : ∃ ws, rdOf ByteArray.empty wants (k : Int) = ws := ⟨_, rfl⟩
   rw [hcs] at hx0 hg0 htx hlen0
   rw [hws] at hy htx
   have HB := Lib.hid hB
   have HTXT := Lib.hid (fun W (h : Below wr.heap.size wr W) => text_any A0 c0 cs W (Kd.C_below hg0 h) hlen0)
   rw [htx] at HTXT
   clear hC2 hW2 hg0 htx hcs hws hB hlen0
   go_upto_region 7 with (fail)
   go_cut [44] (fun v wc => v = .bool false ∧ Below w1.heap.size w1 wc)
   case first =>
    go_region_held3 (fun W' => W'.cell? (ad.add (k * 5)) = some (.slice A0 cs.length c0) ∧ W'.cell? (ax.add k) = some (.string ws) ∧ Below wr.heap.size wr W') ((refine ⟨?_, ?_, ?_⟩ <;> first | (with_reducible assumption) | (with_reducible exact cell_later (by assumption) (And.left ‹_ ∧ _ ∧ Below _ _ _›)) | (with_reducible exact cell_later (by assumption) (And.left (And.right ‹_ ∧ _ ∧ Below _ _ _›))) | (with_reducible exact below_on (And.right (And.right ‹_ ∧ _ ∧ Below _ _ _›)) (by assumption)) | exact below_drew1 (Below.refl _ _) | go_keep))
     (first | (go_at_call 49; refine (HTXT.out _ ?_).mono ?_; (exact And.right (And.right ‹_ ∧ _ ∧ Below _ _ _›)); rintro e w' ⟨rfl, hb⟩))
    go_wp2
    go_meet
    case rel =>
     exact ⟨rfl, below_on HB.out (And.right (And.right ‹_ ∧ _ ∧ Below wr.heap.size wr _›))⟩
   case rest =>
    obtain ⟨rfl, hB3⟩ := hcut
    go_wp2
    go_roundw
    case rel => exact ⟨k + 1, by omega, by go_num, hB3⟩
    case measure => simp [intOf]; omega
  ·have hkm : k = m := by omega
   subst hkm
   have ho2 := HO.out.kept (bfr hB) (fun _ _ => id) (fun _ _ => ⟨id, id⟩)
   have hf2 := HF.out.trans (bfr hB)
   have HO2 := Lib.hid ho2
   have HF2 := Lib.hid hf2
   clear hB ho2 hf2
   go_wp2
   go_ret
   exact ⟨_, ds, rfl, HO2.out, HMAP.out, HF2.out⟩
end Go.Proofs.YtppjgofjjcdcdaaDoor

/- copyistlaw35.awake: it holds. -/
namespace Go.Proofs.YtppjgofjjcdcdaaDoor
open PLayoutRows
open Go.RowKit Go.Proofs.YtppjgofjjcdcdaaDoorW.PrintWords
/-- An operation whose guard lets it be run. -/
theorem wpList_unguard {P : Program} {ops : Array Oper} {Q : Exit → Act → World → Prop} {a : Act} {w : World} {rest : List Oper} {d : Option Tmp} {op : Op} {ty : TypeId} {pos : String} {af : Array Edge} {g : Nat × Bool}
  (hw : Region.wanted ⟨d, op, ty, pos, af, some g⟩ (yielded ops a.tmps) = true) (h : wpList P ops Q (⟨d, op, ty, pos, af, none⟩ :: rest) a w) : wpList P ops Q (⟨d, op, ty, pos, af, some g⟩ :: rest) a w := by
 have h1 : Region.wanted ⟨d, op, ty, pos, af, none⟩ (yielded ops a.tmps) = true := rfl
 simp only [wpList, h1, hw, if_true] at h ⊢
 exact h
theorem own_any (a : Int) (s : ByteArray) (t : Int) (ht : wrap64 (a + (s.size : Int)) = t) (w : World) :
  Calls Tryd.prog 30 #[.int .i64 a, .string s] w fun e w' => e = .returned (.agg #[.int .i64 0, .int .i64 a, .int .i64 t, .string s, .int .i64 0, .int .i64 0, .bool false, .bool false, .bool false]) ∧ Below w.heap.size w w' :=
 copyistlaw35_own.calls a s 0 a t s 0 0 false false false w (by rw [← ht]; rfl)
theorem parts_C {W : World} {g : Nat} {ps : List Part} (h : W.heap[g]? = some (.cells (ps.flatMap (fun p => (partV p).toList)).toArray 55 (0, 0))) (hl : ps.length ≤ 1000) : Kd.C k55 W (some ⟨g, 0, none⟩) ps.length ps :=
 block_reads (fun p => (partV p).toList) 9 (fun _ => rfl) (fun x => k55_mk W x) ps (by omega) h
theorem strs_C {W : World} {g : Nat} {ss : List ByteArray} (h : W.heap[g]? = some (.cells (ss.map Value.string).toArray 9 (0, 0))) (hl : ss.length ≤ 1000) : Kd.C Kd.string W (some ⟨g, 0, none⟩) ss.length ss := by
 refine block_reads (R := Kd.string.K W) (fun z => [Value.string z]) 1 (fun _ => rfl) (fun _ => rfl) ss (by omega) (fr := (0, 0)) (t := 9) ?_
 have e : ∀ P : List ByteArray, P.flatMap (fun z => [Value.string z]) = P.map Value.string := fun P => by induction P with | nil => rfl | cons z P ih => rw [List.flatMap_cons, ih]; rfl
 rw [e]; exact h
/-- What told returns if all is as wanted: rows, n of them. -/
theorem told_lit {l : List Part} {wants : List ByteArray} {rs : List Row} {n1 n2 : Nat} (h1 : l.length = n1) (h2 : wants.length = n2 + 1) (A : Option Addr) (cap : Nat) (Aw : Option Addr) (cw : Nat) (to_ : Int) (wrap : Bool) (w : World) (hd : Kd.C k55 w A n1 l) (hT : Tabs w)
  (hs : ∀ p ∈ l, p.f3.size ≤ 1000000) (hll : l.length ≤ 1000) (hW : Kd.C Kd.string w Aw (n2 + 1) wants) (hr : rowsP l 1 to_ 8 4 wrap 100 = (rs, 0)) (hlen : ∀ r ∈ rs, r.f0.length ≤ 1000000 ∧ r.f1.length ≤ 1000000) (ht : rs.map (fun r => textP r.f0) = wants) :
  Calls Tryd.prog 32 #[.slice A n1 cap, .int .i64 to_, .bool wrap, .slice Aw (n2 + 1) cw] w fun e w' => ∃ ad c, e = .returned (.slice (some ad) (n2 + 1) c) ∧ n2 + 1 ≤ c ∧ Kd.C k39 w' (some ad) (n2 + 1) rs ∧ Below w.heap.size w w' := by
 subst h1
 rw [← h2] at hW ⊢
 have hn : rs.length = wants.length := by rw [← ht, List.length_map]
 refine (told_yes A cap l to_ wrap Aw cw wants rs w hd hT hs hll hW hr hn hlen ?_).mono ?_
 ·intro k hk
  subst ht
  rw [List.length_map] at hk
  simp [hk]
 ·rintro e w' ⟨v, ds, rfl, ho, hmap, hf⟩
  have hds : ds.length = wants.length := by rw [← hn, ← hmap, List.length_map]
  obtain ⟨A1, c1, rfl, hc1, hC1⟩ := ho.toC (fun d h => by have := hlen d.row (by rw [← hmap]; exact List.mem_map_of_mem h); omega)
  rw [hds, hmap] at hC1
  obtain ⟨ad, rfl, _⟩ := hC1.2.2 (by omega)
  exact ⟨ad, c1, by rw [hds], by omega, hC1, hf.toBelow⟩
def wabc : Part := ⟨0, 1, 4, ⟨#[97, 98, 99]⟩, z53⟩
def wlong : Part := ⟨0, 1, 11, ⟨#[97, 98, 99, 100, 101, 102, 103, 104, 105, 106]⟩, z53⟩
def wmixed : List Part := [⟨2, 1, 1, ⟨#[62, 43]⟩, z53⟩, ⟨0, 1, 2, ⟨#[120]⟩, z53⟩, ⟨1, 2, 5, ⟨#[43, 43]⟩, z53⟩, ⟨0, 5, 6, ⟨#[121]⟩, z53⟩]
def rabc : List Row := (rowsP [wabc] 1 4 8 4 true 100).1
def rlong : List Row := (rowsP [wlong] 1 11 8 4 true 100).1
def rmixed : List Row := (rowsP wmixed 1 6 8 4 true 100).1
def sAbc : ByteArray := ⟨#[97, 98, 99, 46, 46, 46, 46, 46]⟩
def sLong1 : ByteArray := ⟨#[97, 98, 99, 100, 101, 102, 103, 92]⟩
def sLong2 : ByteArray := ⟨#[104, 105, 106, 46, 46, 46, 46, 46]⟩
def sMixed : ByteArray := ⟨#[62, 43, 120, 43, 43, 121, 46, 46]⟩
def short (rs : List Row) : Bool := rs.all fun r => decide (r.f0.length ≤ 1000000) && decide (r.f1.length ≤ 1000000)
theorem short_of {rs : List Row} (h : short rs = true) : ∀ r ∈ rs, r.f0.length ≤ 1000000 ∧ r.f1.length ≤ 1000000 := by
 intro r hr
 have := List.all_eq_true.1 h r hr
 simpa using this
def small (l : List Part) : Bool := l.all fun p => decide (p.f3.size ≤ 1000000)
theorem small_of {l : List Part} (h : small l = true) : ∀ p ∈ l, p.f3.size ≤ 1000000 := by
 intro r hr
 have := List.all_eq_true.1 h r hr
 simpa using this
theorem mixed_any (w : World) : Calls Tryd.prog 33 #[] w fun e w' => ∃ A c, e = .returned (.slice A 4 c) ∧ 4 ≤ c ∧ Kd.C k55 w' A 4 wmixed ∧ Below w.heap.size w w' := by
 refine (copyistlaw35_mixed.calls wmixed w (by kernel_rfl)).mono ?_
 rintro e w' ⟨v, rfl, hR, hb⟩
 obtain ⟨A, c, rfl, hc, hC⟩ := Kd.R_reads hR
 exact ⟨A, c, rfl, hc, hC, hb⟩
theorem ints_lit {P Q : List Int} {n1 n2 : Nat} {r : Bool} (h1 : P.length = n1) (h2 : Q.length = n2) (k : Nat) (h : copyistkit_SameInts.f k P Q = some r) (A : Option Addr) (c : Nat) (B : Option Addr) (d : Nat) (w : World) (hA : Kd.C (Kd.int .i64) w A n1 P) (hB : Kd.C (Kd.int .i64) w B n2 Q) (hc : n1 ≤ c) (hd : n2 ≤ d) :
  Calls Tryd.prog 34 #[.slice A n1 c, .slice B n2 d] w fun e w' => e = .returned (.bool r) ∧ Below w.heap.size w w' := by
 subst h1 h2
 exact (copyistkit_SameInts.calls k A c P B d Q r w hA hc hB hd h).mono fun e w' ⟨he, hw⟩ => ⟨he, hw.below⟩
end Go.Proofs.YtppjgofjjcdcdaaDoor

/- copyistlaw35.awake: it holds. -/
namespace Go.Proofs.YtppjgofjjcdcdaaDoor
open PLayoutRows
open Go.RowKit Go.Proofs.YtppjgofjjcdcdaaDoorW.PrintWords
theorem toldA (g1 g2 : Nat) (W : World) (hT : Tabs W) (h1 : W.heap[g1]? = some (.cells #[.int .i64 0, .int .i64 1, .int .i64 4, .string ⟨#[97, 98, 99]⟩, .int .i64 0, .int .i64 0, .bool false, .bool false, .bool false] 55 (0, 0)))
  (h2 : W.heap[g2]? = some (.cells #[.string ⟨#[97, 98, 99, 46, 46, 46, 46, 46]⟩] 9 (0, 0))) :
  Calls Tryd.prog 32 #[.slice (some ⟨g1, 0, none⟩) 1 1, .int .i64 4, .bool true, .slice (some ⟨g2, 0, none⟩) 1 1] W fun e w' => ∃ ad c, e = .returned (.slice (some ad) 1 c) ∧ 1 ≤ c ∧ Kd.C k39 w' (some ad) 1 rabc ∧ Below W.heap.size W w' :=
 told_lit (l := [wabc]) (wants := [sAbc]) (n2 := 0) rfl rfl _ _ _ _ 4 true W (parts_C (ps := [wabc]) h1 (by decide)) hT (small_of (by kernel_rfl)) (by decide) (strs_C (ss := [sAbc]) h2 (by decide)) (by kernel_rfl) (short_of (by kernel_rfl)) (by kernel_rfl)
theorem toldB (A : Option Addr) (c0 : Nat) (g2 : Nat) (W : World) (hT : Tabs W) (h1 : Kd.C k55 W A 4 wmixed)
  (h2 : W.heap[g2]? = some (.cells #[.string ⟨#[62, 43, 120, 43, 43, 121, 46, 46]⟩] 9 (0, 0))) :
  Calls Tryd.prog 32 #[.slice A 4 c0, .int .i64 6, .bool true, .slice (some ⟨g2, 0, none⟩) 1 1] W fun e w' => ∃ ad c, e = .returned (.slice (some ad) 1 c) ∧ 1 ≤ c ∧ Kd.C k39 w' (some ad) 1 rmixed ∧ Below W.heap.size W w' :=
 told_lit (l := wmixed) (wants := [sMixed]) (n2 := 0) rfl rfl _ _ _ _ 6 true W h1 hT (small_of (by kernel_rfl)) (by decide) (strs_C (ss := [sMixed]) h2 (by decide)) (by kernel_rfl) (short_of (by kernel_rfl)) (by kernel_rfl)
theorem toldC (g1 g2 : Nat) (W : World) (hT : Tabs W) (h1 : W.heap[g1]? = some (.cells #[.int .i64 0, .int .i64 1, .int .i64 11, .string ⟨#[97, 98, 99, 100, 101, 102, 103, 104, 105, 106]⟩, .int .i64 0, .int .i64 0, .bool false, .bool false, .bool false] 55 (0, 0)))
  (h2 : W.heap[g2]? = some (.cells #[.string ⟨#[97, 98, 99, 100, 101, 102, 103, 92]⟩, .string ⟨#[104, 105, 106, 46, 46, 46, 46, 46]⟩] 9 (0, 0))) :
  Calls Tryd.prog 32 #[.slice (some ⟨g1, 0, none⟩) 1 1, .int .i64 11, .bool true, .slice (some ⟨g2, 0, none⟩) 2 2] W fun e w' => ∃ ad c, e = .returned (.slice (some ad) 2 c) ∧ 2 ≤ c ∧ Kd.C k39 w' (some ad) 2 rlong ∧ Below W.heap.size W w' :=
 told_lit (l := [wlong]) (wants := [sLong1, sLong2]) (n2 := 1) rfl rfl _ _ _ _ 11 true W (parts_C (ps := [wlong]) h1 (by decide)) hT (small_of (by kernel_rfl)) (by decide) (strs_C (ss := [sLong1, sLong2]) h2 (by decide)) (by kernel_rfl) (short_of (by kernel_rfl)) (by kernel_rfl)
def pAbc : List Int := [1, 2, 3, 4, -1, -1, -1, -1]
def pMixed : List Int := [1, 1, 1, 2, 2, 5, 6, -1]
theorem abc_f1 : (rd_T39 rabc 0).f1 = pAbc := by kernel_rfl
theorem abc_f2 : (rd_T39 rabc 0).f2 = 1 := by kernel_rfl
theorem abc_f3 : (rd_T39 rabc 0).f3 = 4 := by kernel_rfl
theorem mixed_f1 : (rd_T39 rmixed 0).f1 = pMixed := by kernel_rfl
theorem two_at (w : World) (o o' : Obj) : ((w.alloc o).alloc o').heap[w.heap.size]? = some o := hd_alloc (World.alloc_heap_new w o)
theorem two_at' (w : World) (o o' : Obj) : ((w.alloc o).alloc o').heap[w.heap.size + 1]? = some o' := by
 have h := World.alloc_heap_new (w.alloc o) o'
 rw [World.size_alloc] at h
 exact h
set_option maxRecDepth 100000
set_option maxHeartbeats 4000000 in
theorem awake_any (w : World) (hT : Tabs w) : Calls Tryd.prog 10 #[] w fun e w' => e = .returned (.bool true) ∧ Below w.heap.size w w' := by
 have HT := Lib.hid (fun W (h : Below w.heap.size w W) => hT.below h)
 clear hT
 go_enter Tryd.func10, Tryd.ntmps10
 go_wp2_with fail
 refine (own_any 1 ⟨#[97, 98, 99]⟩ 4 (by kernel_rfl) _).mono ?_
 rintro e w1 ⟨rfl, hb1⟩
 have HB1 := Lib.hid hb1
 clear hb1
 go_wp2_with fail
 refine (toldA _ _ _ (HT.out _ (below_alloc (below_alloc HB1.out _) _)) (two_at _ _ _) (two_at' _ _ _)).mono ?_
 rintro e w2 ⟨ad, c, rfl, hc, hC, hb⟩
 have HB2 := Lib.hid (below_on (below_alloc (below_alloc HB1.out _) _) hb)
 have HC := Lib.hid hC
 clear hC hb HB1
 go_wp2_with fail
 refine (mixed_any _).mono ?_
 rintro e w3 ⟨A3, c3, rfl, hc3, hC3, hb3⟩
 have HB3 := Lib.hid hb3
 have HC3 := Lib.hid hC3
 clear hb3 hC3
 go_wp2_with fail
 refine (toldB A3 c3 _ _ (HT.out _ (below_alloc (below_on HB2.out HB3.out) _)) (Kd.C_below HC3.out (below_alloc (Below.refl _ _) _)) (World.alloc_heap_new _ _)).mono ?_
 rintro e w4 ⟨bd, d, rfl, hd, hD, hb⟩
 have HB4 := Lib.hid (below_on (below_alloc (below_on HB2.out HB3.out) _) hb)
 have HC4 := Lib.hid (Kd.C_below (Kd.C_below HC.out HB3.out) (below_on (below_alloc (Below.refl _ _) _) hb))
 have HD := Lib.hid hD
 clear hD hb HB3 HB2 HC3 HC
 obtain ⟨_, A0, c0, A1, c1, e1, -, x1, x2, x3, -, -, -, l1, g1⟩ := at_T39 HC4.out 0 (by decide) (by decide)
 obtain ⟨_, B0, d0, B1, d1, e2, -, y1, -, -, -, -, -, m1, k1⟩ := at_T39 HD.out 0 (by decide) (by decide)
 cases e1
 cases e2
 rw [abc_f1, show pAbc.length = 8 from rfl] at x1 l1 g1
 rw [abc_f2] at x2
 rw [abc_f3] at x3
 rw [mixed_f1, show pMixed.length = 8 from rfl] at y1 m1 k1
 rw [show (0 : Int).toNat * 5 = 0 from rfl] at x1 x2 x3 y1
 simp only [Addr.add_zero'] at x1 x2 x3 y1
 have L1 := Lib.hid l1
 have M1 := Lib.hid m1
 have G1 := Lib.hid g1
 have K1 := Lib.hid k1
 clear l1 m1 g1 k1 HC4 HD
 go_wp2_with (with_reducible refine wpList_unguard (by kernel_rfl) ?_)
 refine (ints_lit (P := pAbc) (Q := pAbc) (r := true) rfl rfl 10 (by kernel_rfl) A1 c1 _ _ _ (Kd.C_below G1.out (below_alloc (Below.refl _ _) _)) (posB_C (P := pAbc) (World.alloc_heap_new _ _) (by decide)) L1.out (by decide)).mono ?_
 rintro e w5 ⟨rfl, hb⟩
 have h45 := below_on (below_alloc (Below.refl _ w4) _) hb
 replace x2 := cell_later h45 x2
 replace x3 := cell_later h45 x3
 replace y1 := cell_later h45 y1
 have HB5 := Lib.hid (below_on HB4.out h45)
 have K5 := Lib.hid (Kd.C_below K1.out h45)
 clear x1 h45 hb K1 G1 L1 HB4
 go_wp2_with (with_reducible refine wpList_unguard (by kernel_rfl) ?_)
 refine (ints_lit (P := pMixed) (Q := pMixed) (r := true) rfl rfl 10 (by kernel_rfl) B1 d1 _ _ _ (Kd.C_below K5.out (below_alloc (Below.refl _ _) _)) (posB_C (P := pMixed) (World.alloc_heap_new _ _) (by decide)) M1.out (by decide)).mono ?_
 rintro e w6 ⟨rfl, hb⟩
 have HB6 := Lib.hid (below_on (below_alloc HB5.out _) hb)
 clear x2 x3 y1 hb K5 M1 HB5
 go_wp2_with (with_reducible refine wpList_unguard (by kernel_rfl) ?_)
 refine (own_any 1 ⟨#[97, 98, 99, 100, 101, 102, 103, 104, 105, 106]⟩ 11 (by kernel_rfl) _).mono ?_
 rintro e w7 ⟨rfl, hb⟩
 have HB7 := Lib.hid (below_on HB6.out hb)
 clear hb HB6
 go_wp2_with (with_reducible refine wpList_unguard (by kernel_rfl) ?_)
 refine (toldC _ _ _ (HT.out _ (below_alloc (below_alloc HB7.out _) _)) (two_at _ _ _) (two_at' _ _ _)).mono ?_
 rintro e w8 ⟨a8, c8, rfl, hc8, hC8, hb⟩
 have HB8 := Lib.hid (below_on (below_alloc (below_alloc HB7.out _) _) hb)
 clear hC8 hb HB7
 go_wp2_with (with_reducible refine wpList_unguard (by kernel_rfl) ?_)
 go_ret
 exact ⟨rfl, HB8.out⟩
end Go.Proofs.YtppjgofjjcdcdaaDoor

/- A whole number of a row. -/
namespace Go.Proofs.YtppjgofjjcdcdaaDoor
open PLayoutRows
open Go.RowKit Go.Proofs.YtppjgofjjcdcdaaDoorW.PrintWords
theorem at_int {w : World} {A : Option Addr} {n : Nat} {xs : List Int} (h : Kd.C (Kd.int .i64) w A n xs) (k : Nat) (h1 : k < n) : ∃ ad, A = some ad ∧ w.cell? (ad.add k) = some (.int .i64 (xs.getD k 0)) := by
 obtain ⟨ad, c, e, _, hK, hc⟩ := Kd.C_get h 0 (k : Int) (by omega) (by omega)
 have hK' : c = [.int .i64 (xs.getD (k : Int).toNat 0)] := hK
 have := hc 0 _ (by rw [hK']; rfl)
 rw [Int.toNat_natCast] at this
 exact ⟨ad, e, by simpa [Kd.int, Kd.scalar] using this⟩
end Go.Proofs.YtppjgofjjcdcdaaDoor

/- copyistlaw35.long and vast: whether lists are too great for the statements. -/
namespace Go.Proofs.YtppjgofjjcdcdaaDoor
open PLayoutRows
open Go.RowKit Go.Proofs.YtppjgofjjcdcdaaDoorW.PrintWords
theorem wrap_nat {k : Nat} (h : k ≤ 9223372036854775807) : wrap64 (k : Int) = (k : Int) := by unfold wrap64; omega
theorem long_at (l : List Part) : ∀ (d i : Nat), i + d = 32 → (∀ j, j < i → (rd_T55 l (j : Int)).f3.size ≤ 200) → ∃ b, copyistlaw35_long.l0 (2 * d + 3) l (i : Int) = some b ∧ (b = false → l.length ≤ 30 ∧ ∀ j, j < l.length → (rd_T55 l (j : Int)).f3.size ≤ 200)
 | 0, i, h, hs => by
  refine ⟨decide ((l.length : Int) > 30), ?_, fun hb => ?_⟩
  ·simp only [copyistlaw35_long.l0]
   by_cases c : (i : Int) < (l.length : Int)
   ·rw [if_pos c]
    simp only [copyistlaw35_long.j1]
    rw [decide_eq_false (by omega), if_neg (by simp)]
   ·rw [if_neg c]
    simp only [copyistlaw35_long.j1]
    rw [if_neg (by simp)]
  ·have := of_decide_eq_false hb
   exact ⟨by omega, fun j hj => hs j (by omega)⟩
 | d + 1, i, h, hs => by
  have done : ∀ b : Bool, copyistlaw35_long.j1 (2 * (d + 1) + 2) l (i : Int) false = some (decide ((l.length : Int) > 30)) := by
   intro b
   rw [show 2 * (d + 1) + 2 = (2 * d + 3) + 1 by omega]
   simp only [copyistlaw35_long.j1]
   rw [if_neg (by simp)]
  rw [show 2 * (d + 1) + 3 = (2 * (d + 1) + 2) + 1 by omega]
  simp only [copyistlaw35_long.l0]
  by_cases c : (i : Int) < (l.length : Int)
  ·rw [if_pos c]
   by_cases c2 : (i : Int) < 31
   ·rw [decide_eq_true c2, show 2 * (d + 1) + 2 = (2 * d + 3) + 1 by omega]
    rw [copyistlaw35_long.j1]
    rw [if_pos rfl, if_pos (by omega), if_pos c]
    by_cases c3 : (((rd_T55 l (i : Int)).f3).size : Int) > 200
    ·rw [if_pos c3]
     exact ⟨true, rfl, fun h => by cases h⟩
    ·rw [if_neg c3, show ((i : Int) + 1) = ((i + 1 : Nat) : Int) by omega, wrap_nat (by omega)]
     exact long_at l d (i + 1) (by omega) (fun j hj => by
      rcases Nat.lt_or_ge j i with h1 | h1
      ·exact hs j h1
      ·rw [show j = i by omega]; omega)
   ·rw [decide_eq_false c2, done true]
    exact ⟨_, rfl, fun hb => by have := of_decide_eq_false hb; omega⟩
  ·rw [if_neg c, done true]
   exact ⟨_, rfl, fun hb => by have := of_decide_eq_false hb; exact ⟨by omega, fun j hj => hs j (by omega)⟩⟩
theorem long_any (A : Option Addr) (n c : Nat) (l : List Part) (hn : l.length = n) (hc : n ≤ c) (w : World) (hC : Kd.C k55 w A n l) :
  Calls Tryd.prog 8 #[.slice A n c] w fun e w' => ∃ b, e = .returned (.bool b) ∧ (b = false → l.length ≤ 30 ∧ ∀ p ∈ l, p.f3.size ≤ 200) ∧ Drawn0 w w' := by
 subst hn
 obtain ⟨b, hb, hs⟩ := long_at l 32 0 (by omega) (fun j hj => by omega)
 refine (copyistlaw35_long.calls (2 * 32 + 3) A c l b w hC hc hb).mono ?_
 rintro e w' ⟨rfl, hd⟩
 refine ⟨b, rfl, fun h => ⟨(hs h).1, fun p hp => ?_⟩, hd⟩
 obtain ⟨j, hj, rfl⟩ := List.getElem_of_mem hp
 have := (hs h).2 j hj
 simpa [rd_T55, hj] using this
theorem vast_at (l : List Part) (w_ t m : Int) (hl : l.length ≤ 1000) : ∀ (d i : Nat) (n : Int), i + d = l.length → ∃ b, copyistlaw35_vast.l0 (d + 1) l w_ t m n (i : Int) = some b
 | 0, i, n, h => by
  simp only [copyistlaw35_vast.l0]
  rw [if_neg (by omega)]
  split
  ·exact ⟨_, rfl⟩
  ·split
   ·exact ⟨_, rfl⟩
   ·split
    ·exact ⟨_, rfl⟩
    ·split
     ·exact ⟨_, rfl⟩
     ·exact ⟨_, rfl⟩
 | d + 1, i, n, h => by
  rw [copyistlaw35_vast.l0]
  rw [if_pos (by omega), if_pos (by omega), show ((i : Int) + 1) = ((i + 1 : Nat) : Int) by omega, wrap_nat (by omega)]
  exact vast_at l w_ t m hl d (i + 1) _ (by omega)
theorem vast_any (A : Option Addr) (n c : Nat) (l : List Part) (hn : l.length = n) (hc : n ≤ c) (hl : l.length ≤ 1000) (width tab m : Int) (w : World) (hC : Kd.C k55 w A n l) :
  Calls Tryd.prog 9 #[.slice A n c, .int .i64 width, .int .i64 tab, .int .i64 m] w fun e w' => ∃ b, e = .returned (.bool b) ∧ Drawn0 w w' := by
 subst hn
 obtain ⟨b, hb⟩ := vast_at l width tab m hl l.length 0 0 (by omega)
 refine (copyistlaw35_vast.calls (l.length + 1) A c l width tab m b w hC hc hb).mono ?_
 rintro e w' ⟨rfl, hd⟩
 exact ⟨b, rfl, hd⟩
end Go.Proofs.YtppjgofjjcdcdaaDoor

/- The plain law of LayoutFits: wrapped and cut rows, and the first rows of them. -/
namespace Go.Proofs.YtppjgofjjcdcdaaDoor
open PLayoutRows
def nextF (to_ : Int) (E : List Row) (i : Nat) : Int := match E[i + 1]? with
 | some r => r.f2
 | none => to_
theorem setLastR_get : ∀ (rs : List Row) (t : Int) (i : Nat), (setLastR rs t)[i]? = if i + 1 = rs.length then rs[i]?.map (toR · t) else rs[i]?
 | [], t, i => by simp [setLastR]
 | [r], t, 0 => by simp [setLastR]
 | [r], t, i + 1 => by simp [setLastR]
 | r :: e :: rs, t, 0 => by simp [setLastR]
 | r :: e :: rs, t, i + 1 => by
  have ih := setLastR_get (e :: rs) t i
  simp only [setLastR, List.getElem?_cons_succ, List.length_cons] at *
  rw [ih]
  by_cases h : i + 1 = rs.length + 1
  ·rw [if_pos h, if_pos (by omega)]
  ·rw [if_neg h, if_neg (by omega)]
theorem toR_toR (r : Row) (a b : Int) : toR (toR r a) b = toR r b := rfl
theorem tosR_get (to_ : Int) : ∀ (n : Nat) (E : List Row), E.length = n → ∀ i, (tosR to_ E)[i]? = E[i]?.map fun r => toR r (nextF to_ E i)
 | 0, E, h, i => by
  rw [List.length_eq_zero_iff.1 h]; rfl
 | n + 1, E, h, i => by
  obtain ⟨E0, r, rfl⟩ : ∃ E0 r, E = E0 ++ [r] := ⟨E.dropLast, E.getLast (by intro e; rw [e] at h; simp at h), (List.dropLast_concat_getLast _).symm⟩
  have hl : E0.length = n := by simpa using h
  have ih := tosR_get to_ n E0 hl
  have hlt : (tosR to_ E0).length = E0.length := tosR_len _ _
  rw [tosR_snoc]
  unfold addR
  rcases Nat.lt_trichotomy i E0.length with hi | hi | hi
  ·rw [List.getElem?_append_left (by rw [setLastR_len, hlt]; exact hi), setLastR_get, ih, List.getElem?_append_left hi, hlt]
   by_cases h1 : i + 1 = E0.length
   ·rw [if_pos h1, Option.map_map]
    have hn : nextF to_ (E0 ++ [r]) i = r.f2 := by unfold nextF; rw [h1, List.getElem?_append_right (Nat.le_refl _)]; simp
    rw [hn]; rfl
   ·rw [if_neg h1]
    have hn : nextF to_ (E0 ++ [r]) i = nextF to_ E0 i := by unfold nextF; rw [List.getElem?_append_left (by omega)]
    rw [hn]
  ·subst hi
   rw [List.getElem?_append_right (by rw [setLastR_len, hlt]; exact Nat.le_refl _), setLastR_len, hlt, Nat.sub_self, List.getElem?_append_right (Nat.le_refl _), Nat.sub_self]
   have hn : nextF to_ (E0 ++ [r]) E0.length = to_ := by unfold nextF; rw [List.getElem?_eq_none (by simp)]
   rw [hn]; rfl
  ·rw [List.getElem?_eq_none (by rw [List.length_append, setLastR_len, hlt]; simp; omega), List.getElem?_eq_none (by simp; omega)]; rfl
theorem collectR_get (to_ : Int) (m : Nat) (E : List Row) (i : Nat) : (collectR to_ m E)[i]? = if i < m then E[i]?.map fun r => toR r (nextF to_ E i) else none := by
 unfold collectR
 by_cases h : E.length ≤ m
 ·rw [if_pos h, tosR_get to_ _ E rfl]
  by_cases hi : i < m
  ·rw [if_pos hi]
  ·rw [if_neg hi, List.getElem?_eq_none (by omega)]; rfl
 ·rw [if_neg h, setLastR_get, tosR_len, tosR_get to_ _ (E.take m) rfl, List.length_take, Nat.min_eq_left (by omega)]
  by_cases hi : i < m
  ·rw [if_pos hi, List.getElem?_take_of_lt hi]
   by_cases h1 : i + 1 = m
   ·rw [if_pos h1, Option.map_map]
    have hn : nextF to_ E i = (E.getD m z39).f2 := by unfold nextF; rw [h1, List.getElem?_eq_getElem (by omega)]; simp [show m < E.length by omega]
    rw [hn]; rfl
   ·rw [if_neg h1]
    have hn : nextF to_ (E.take m) i = nextF to_ E i := by unfold nextF; rw [List.getElem?_take_of_lt (by omega)]
    rw [hn]
  ·rw [if_neg hi, if_neg (by omega), List.getElem?_eq_none (by rw [List.length_take]; omega)]; rfl
end Go.Proofs.YtppjgofjjcdcdaaDoor

/- Rows are as wide as asked; layout.Rows as the kit's kinds read its result. -/
namespace Go.Proofs.YtppjgofjjcdcdaaDoor
open PLayoutRows
open Go.RowKit Go.Proofs.YtppjgofjjcdcdaaDoorW.PrintWords
def Wide (width : Nat) (x : Fil) : Prop := x.cells.length = width ∧ x.pos.length = width
theorem wide_put {width : Nat} {x : Fil} (h : Wide width x) (cs : List Cell) (pos : Int) : Wide width (x.put cs pos) := by
 obtain ⟨h1, h2, _⟩ := puts_len cs pos (x.at0 pos)
 have h0 := at0_same x pos
 unfold Fil.put
 exact ⟨by rw [h1, h0.1]; exact h.1, by rw [h2, h0.2.1]; exact h.2⟩
theorem wide_end {width : Nat} {x : Fil} (h : Wide width x) (pos : Int) : Wide width (x.end_ pos) := by
 have h0 := at0_same x pos
 exact ⟨by show (x.at0 pos).cells.length = _; rw [h0.1]; exact h.1, by show (x.pos.set x.n pos).length = _; rw [List.length_set]; exact h.2⟩
theorem wide_mark {width : Nat} {x : Fil} (h : Wide width x) (c : Int) : Wide width (x.mark c) := ⟨by simp [Fil.mark, h.1], h.2⟩
theorem wide_new (width : Nat) : Wide width (newFil width) := ⟨by simp [newFil, blankP], by simp [newFil]⟩
theorem wide_step (width : Nat) (wrap : Bool) (s : RS) (u : Unt) (h : Wide width s.x) (hr : ∀ r ∈ s.rows, r.f0.length = width ∧ r.f1.length = width) :
  Wide width (stepR width wrap s u).x ∧ ∀ r ∈ (stepR width wrap s u).rows, r.f0.length = width ∧ r.f1.length = width := by
 have add : ∀ (x : Fil), Wide width x → ∀ r ∈ s.rows ++ [rowOf x], r.f0.length = width ∧ r.f1.length = width := by
  intro x hx r hm
  rcases List.mem_append.1 hm with hm | hm
  ·exact hr r hm
  ·rw [List.mem_singleton] at hm; rw [hm]; exact hx
 unfold stepR
 split
 ·refine ⟨wide_new width, add _ ?_⟩
  split
  ·exact h
  ·exact wide_end h _
 ·split
  ·exact ⟨h, hr⟩
  ·split
   ·exact ⟨wide_put h _ _, hr⟩
   ·split
    ·exact ⟨wide_put (wide_new width) _ _, add _ (wide_mark h 92)⟩
    ·exact ⟨wide_mark h _, hr⟩
theorem wide_all (width : Nat) (wrap : Bool) (us : List Unt) : Wide width (rowsS width wrap us).x ∧ ∀ r ∈ (rowsS width wrap us).rows, r.f0.length = width ∧ r.f1.length = width := by
 have key : ∀ (us : List Unt) (s : RS), Wide width s.x → (∀ r ∈ s.rows, r.f0.length = width ∧ r.f1.length = width) → Wide width (us.foldl (stepR width wrap) s).x ∧ ∀ r ∈ (us.foldl (stepR width wrap) s).rows, r.f0.length = width ∧ r.f1.length = width := by
  intro us
  induction us with
  | nil => intro s h hr; exact ⟨h, hr⟩
  | cons u us ih => intro s h hr; obtain ⟨a, b⟩ := wide_step width wrap s u h hr; exact ih _ a b
 exact key us _ (wide_new width) (by simp)
theorem rowsE_width (width : Nat) (wrap : Bool) (to_ : Int) (us : List Unt) : ∀ r ∈ rowsE width wrap to_ us, r.f0.length = width ∧ r.f1.length = width := by
 obtain ⟨h, hr⟩ := wide_all width wrap us
 intro r hm
 unfold rowsE at hm
 rcases List.mem_append.1 hm with hm | hm
 ·exact hr r hm
 ·rw [List.mem_singleton] at hm
  rw [hm]
  split
  ·exact h
  ·exact wide_end h _
theorem collectR_width (width : Nat) (to_ : Int) (m : Nat) (E : List Row) (h : ∀ r ∈ E, r.f0.length = width ∧ r.f1.length = width) : ∀ r ∈ collectR to_ m E, r.f0.length = width ∧ r.f1.length = width := by
 intro r hm
 obtain ⟨i, hi⟩ := List.mem_iff_getElem?.1 hm
 rw [collectR_get] at hi
 split at hi
 ·rw [Option.map_eq_some_iff] at hi
  obtain ⟨q, hq, rfl⟩ := hi
  exact h q (List.mem_of_getElem? hq)
 ·cases hi
theorem rowsP_width (l : List Part) (from_ to_ width tab : Int) (wrap : Bool) (most : Int) : ∀ r ∈ (rowsP l from_ to_ width tab wrap most).1, r.f0.length = width.toNat ∧ r.f1.length = width.toNat ∧ width ≤ 1000 := by
 intro r hm
 unfold rowsP at hm
 split at hm
 ·simp at hm
 ·split at hm
  ·simp at hm
  ·rename_i h
   have hw : width ≤ 1000 := by unfold badR at h; omega
   obtain ⟨a, b⟩ := collectR_width width.toNat to_ most.toNat _ (rowsE_width width.toNat wrap to_ _) r hm
   exact ⟨a, b, hw⟩
/-- layout.Rows: a slice that reads as the rows. -/
theorem rows_C (A : Option Addr) (n c : Nat) (l : List Part) (hn : l.length = n) (from_ to_ width tab : Int) (wrap : Bool) (most : Int) (w : World) (hd : Kd.C k55 w A n l) (hT : Tabs w) (hs : ∀ p ∈ l, p.f3.size ≤ 1000000) (hll : l.length ≤ 1000) (rs : List Row) (err : Int) (hr : rowsP l from_ to_ width tab wrap most = (rs, err)) :
  Calls Tryd.prog 12 #[.slice A n c, .int .i64 from_, .int .i64 to_, .int .i64 width, .int .i64 tab, .bool wrap, .int .i64 most] w fun e w' =>
   ∃ B d, e = .returned (.tuple #[.slice B rs.length d, .int .i64 err]) ∧ rs.length ≤ d ∧ Kd.C k39 w' B rs.length rs ∧ Below w.heap.size w w' := by
 subst hn
 refine (callsIn_wide.1 (rows_any A c l from_ to_ width tab wrap most w hd hT hs hll)).mono ?_
 rintro e w' ⟨v, ds, rfl, ho, hmap, hf⟩
 rw [hr] at hmap ⊢
 have hmap' : ds.map RowD.row = rs := hmap
 have hw := rowsP_width l from_ to_ width tab wrap most
 rw [hr] at hw
 have hds : ds.length = rs.length := by rw [← hmap', List.length_map]
 obtain ⟨A1, c1, rfl, hc1, hC1⟩ := ho.toC (fun d h => by have := hw d.row (by show d.row ∈ rs; rw [← hmap']; exact List.mem_map_of_mem h); omega)
 rw [hds, hmap'] at hC1
 exact ⟨A1, c1, by rw [hds], by omega, hC1, hf.toBelow⟩
theorem rowsP_err (l : List Part) (from_ to_ width tab : Int) (wrap : Bool) (most : Int) : (rowsP l from_ to_ width tab wrap most).2 = if checkP l from_ to_ ≠ 0 then checkP l from_ to_ else if badR width tab most then 3 else 0 := by
 unfold rowsP; split <;> (try split) <;> rfl
end Go.Proofs.YtppjgofjjcdcdaaDoor

/- copyistkit.SameCells, SameRows: of equal lists they say true. -/
namespace Go.Proofs.YtppjgofjjcdcdaaDoor
open PLayoutRows
open Go.RowKit Go.Proofs.YtppjgofjjcdcdaaDoorW.PrintWords
attribute [local go_sem high] eqA78
set_option maxRecDepth 100000
set_option maxHeartbeats 1600000 in
theorem cells_same (A : Option Addr) (c : Nat) (B : Option Addr) (d : Nat) (cs : List Cell) (n : Nat) (w : World) (hA : Kd.C k78 w A n cs) (hB : Kd.C k78 w B n cs) :
  Calls Tryd.prog 24 #[.slice A n c, .slice B n d] w fun e w' => e = .returned (.bool true) ∧ Drawn0 w w' := by
 have hu78 := Tryd.underlying78
 have hnb : n ≤ 9223372036854775807 := hA.2.1
 have HA := Lib.hid hA
 have HB := Lib.hid hB
 clear hA hB
 go_enter Tryd.func24, Tryd.ntmps24
 go_wp2
 go_loopw [5, 6] (fun v i wr => ∃ k : Nat, v = .bool true ∧ i = .int .i64 k ∧ k ≤ n ∧ Drawn0 w wr) (fun _ i _ => n - (intOf i).toNat)
 case atStart => exact ⟨0, by simp, rfl, Nat.zero_le _, Drawn0.refl _⟩
 case round =>
  obtain ⟨k, rfl, rfl, hk, ⟨m1, rfl⟩⟩ := hrel
  by_cases hlt : k < n
  ·obtain ⟨ad, rfl, x0, x1, x2, x3, x4, x5⟩ := at_T78 HA.out (k : Int) (by omega) (by omega)
   obtain ⟨bd, rfl, y0, y1, y2, y3, y4, y5⟩ := at_T78 HB.out (k : Int) (by omega) (by omega)
   rw [Int.toNat_natCast] at x0 x1 x2 x3 x4 x5 y0 y1 y2 y3 y4 y5
   obtain ⟨x, hx⟩ : ∃ x, rd_T78 cs (k : Int) = x := ⟨_, rfl⟩
   rw [hx] at x0 x1 x2 x3 x4 x5 y0 y1 y2 y3 y4 y5
   clear hx
   have hk0 : (0 : Int) ≤ (k : Int) := by omega
   have hk1 : (k : Int) < (n : Int) := by omega
   go_wp2
   repeat (go_quiet (fail); try go_wp2)
   go_roundw
   case rel => exact ⟨k + 1, by simp, by go_num, by omega, by repeat (first | exact Drawn0.refl _ | apply Drawn0.step)⟩
   case measure => simp [intOf]; omega
  ·have hkn : k = n := by omega
   subst hkn
   go_wp2
   repeat (go_quiet (fail); try go_wp2)
   go_ret
   exact ⟨rfl, by repeat (first | exact Drawn0.refl _ | apply Drawn0.step)⟩
set_option maxRecDepth 100000
set_option maxHeartbeats 1600000 in
theorem ints_same (A : Option Addr) (c : Nat) (B : Option Addr) (d : Nat) (P : List Int) (n : Nat) (w : World) (hA : Kd.C (Kd.int .i64) w A n P) (hB : Kd.C (Kd.int .i64) w B n P) :
  Calls Tryd.prog 34 #[.slice A n c, .slice B n d] w fun e w' => e = .returned (.bool true) ∧ Drawn0 w w' := by
 have hnb : n ≤ 9223372036854775807 := hA.2.1
 have HA := Lib.hid hA
 have HB := Lib.hid hB
 clear hA hB
 go_enter Tryd.func34, Tryd.ntmps34
 go_wp2
 go_loopw [5, 6] (fun v i wr => ∃ k : Nat, v = .bool true ∧ i = .int .i64 k ∧ k ≤ n ∧ Drawn0 w wr) (fun _ i _ => n - (intOf i).toNat)
 case atStart => exact ⟨0, by simp, rfl, Nat.zero_le _, Drawn0.refl _⟩
 case round =>
  obtain ⟨k, rfl, rfl, hk, ⟨m1, rfl⟩⟩ := hrel
  by_cases hlt : k < n
  ·obtain ⟨ad, rfl, x0⟩ := at_int HA.out k hlt
   obtain ⟨bd, rfl, y0⟩ := at_int HB.out k hlt
   obtain ⟨x, hx⟩ : ∃ x, P.getD k 0 = x := ⟨_, rfl⟩
   rw [hx] at x0 y0
   clear hx
   have hk0 : (0 : Int) ≤ (k : Int) := by omega
   have hk1 : (k : Int) < (n : Int) := by omega
   go_wp2
   repeat (go_quiet (fail); try go_wp2)
   go_roundw
   case rel => exact ⟨k + 1, by simp, by go_num, by omega, by repeat (first | exact Drawn0.refl _ | apply Drawn0.step)⟩
   case measure => simp [intOf]; omega
  ·have hkn : k = n := by omega
   subst hkn
   go_wp2
   repeat (go_quiet (fail); try go_wp2)
   go_ret
   exact ⟨rfl, by repeat (first | exact Drawn0.refl _ | apply Drawn0.step)⟩
theorem quiet_C {f : FuncId} {args : Array Value} {w : World} {n : Nat} {v : Value} (h : ∀ W, Drawn0 w W → Calls Tryd.prog f args W fun e w' => e = .returned v ∧ Drawn0 W w') : Calls Tryd.prog f args (w.drewN n) fun e w'' => e = .returned v ∧ ∃ m, w'' = w.drewN m :=
 Calls.quiet_of ((h _ ((Drawn0.refl w).step n)).mono fun _ _ ⟨he, ⟨hd⟩⟩ => ⟨he, hd⟩)
theorem C_drawn {α : Type} {d : Kd α} {w W : World} {A : Option Addr} {n : Nat} {xs : List α} (h : Kd.C d w A n xs) (hd : Drawn0 w W) : Kd.C d W A n xs := Kd.C_below h hd.below
set_option maxHeartbeats 8000000 in
theorem rows_same (A : Option Addr) (c : Nat) (B : Option Addr) (d : Nat) (rs : List Row) (n : Nat) (w : World) (hA : Kd.C k39 w A n rs) (hB : Kd.C k39 w B n rs) :
  Calls Tryd.prog 14 #[.slice A n c, .slice B n d] w fun e w' => e = .returned (.bool true) ∧ Drawn0 w w' := by
 have hnb : n ≤ 9223372036854775807 := hA.2.1
 have HA := Lib.hid hA
 have HB := Lib.hid hB
 clear hA hB
 go_enter Tryd.func14, Tryd.ntmps14
 go_wp2
 go_loopw [5, 6] (fun v i wr => ∃ k : Nat, v = .bool true ∧ i = .int .i64 k ∧ k ≤ n ∧ Drawn0 w wr) (fun _ i _ => n - (intOf i).toNat)
 case atStart => exact ⟨0, by simp, rfl, Nat.zero_le _, Drawn0.refl _⟩
 case round =>
  obtain ⟨k, rfl, rfl, hk, hdr⟩ := hrel
  by_cases hlt : k < n
  ·obtain ⟨ad, A0, a0, A1, a1, rfl, x0, x1, x2, x3, x4, -, xg, -, xh⟩ := at_T39 (C_drawn HA.out hdr) (k : Int) (by omega) (by omega)
   obtain ⟨bd, B0, b0, B1, b1, rfl, y0, y1, y2, y3, y4, -, yg, -, yh⟩ := at_T39 (C_drawn HB.out hdr) (k : Int) (by omega) (by omega)
   rw [Int.toNat_natCast] at x0 x1 x2 x3 x4 y0 y1 y2 y3 y4
   obtain ⟨x, hx⟩ : ∃ x, rd_T39 rs (k : Int) = x := ⟨_, rfl⟩
   rw [hx] at x0 x1 x2 x3 x4 y0 y1 y2 y3 y4 xg xh yg yh
   clear hx
   obtain ⟨l0, hl0⟩ : ∃ l0, x.f0.length = l0 := ⟨_, rfl⟩
   obtain ⟨l1, hl1⟩ : ∃ l1, x.f1.length = l1 := ⟨_, rfl⟩
   rw [hl0] at x0 y0 xg yg
   rw [hl1] at x1 y1 xh yh
   have hk0 : (0 : Int) ≤ (k : Int) := by omega
   have hk1 : (k : Int) < (n : Int) := by omega
   have HCC := Lib.hid (fun W (h : Drawn0 wr W) => cells_same A0 a0 B0 b0 x.f0 l0 W (C_drawn xg h) (C_drawn yg h))
   have HII := Lib.hid (fun W (h : Drawn0 wr W) => ints_same A1 a1 B1 b1 x.f1 l1 W (C_drawn xh h) (C_drawn yh h))
   have HDR := Lib.hid hdr
   clear xg yg xh yh hl0 hl1 hdr
   go_wp2
   go_quiet (first | (go_at_call 24; exact quiet_C HCC.out) | (go_at_call 34; exact quiet_C HII.out))
   go_wp2
   go_roundw
   case rel =>
    refine ⟨k + 1, by simp, by go_num, by omega, ?_⟩
    first | exact HDR.out.step _ | (have h := HDR.out; repeat (first | exact h | apply Drawn0.step))
   case measure => simp [intOf]; omega
  ·have hkn : k = n := by omega
   subst hkn
   have HDR := Lib.hid hdr
   clear hdr
   go_wp2
   repeat (go_quiet (fail); try go_wp2)
   go_ret
   exact ⟨rfl, HDR.out⟩
end Go.Proofs.YtppjgofjjcdcdaaDoor
