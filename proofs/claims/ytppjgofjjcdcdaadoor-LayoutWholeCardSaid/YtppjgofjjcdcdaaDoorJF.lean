/- copyistkit.SameCells, SameRows: of equal lists they say true. -/
import Derived.Test.YtppjgofjjcdcdaaDoorJB
import Derived.Laws.Cover4
import Derived.Test.YtppjgofjjcdcdaaDoorJE
import Derived.Deep.RegionHeld3
import Derived.Test.YtppjgofjjcdcdaaDoorPLayoutRowsx3
import Derived.Test.YtppjgofjjcdcdaaDoorShelf
import Derived.Laws.EntriesVeiled
import Derived.Test.YtppjgofjjcdcdaaDoorPLayoutRowsx2
set_option linter.unusedVariables false
set_option linter.unusedSimpArgs false
/- copyistlaw35.text: the characters of cells as a string. -/
namespace Go.Proofs.YtppjgofjjcdcdaaDoor
open PLayoutRows
open Go.RowKit Go.Proofs.YtppjgofjjcdcdaaDoorW.PrintWords
def runeP (c : Cell) : List Int := if c.f0 = 32 then [46] else if c.f0 = -1 then [] else [wrap32 c.f0]
def runesT (cs : List Cell) : List Int := cs.flatMap runeP
def textP (cs : List Cell) : ByteArray := runesBytes (runesT cs)
theorem info21r : (Tryd.prog.info? 21).map (fun i => (i.zero, i.size, i.bytes)) = some (some (.int .i32 0), 1, 4) := by kernel_rfl
theorem runesT_len (cs : List Cell) : (runesT cs).length ≤ cs.length := by
  induction cs with
  | nil => simp [runesT]
  | cons c cs ih =>
    have h : runesT (c :: cs) = runeP c ++ runesT cs := rfl
    have h1 : (runeP c).length ≤ 1 := by unfold runeP; split <;> (try split) <;> simp
    rw [h, List.length_append, List.length_cons]; omega
theorem runesT_take (cs : List Cell) (k : Nat) (h : k < cs.length) : runesT (cs.take (k + 1)) = runesT (cs.take k) ++ runeP (rd_T78 cs k) := by
  rw [List.take_succ_eq_append_getElem h]; simp only [runesT, List.flatMap_append, List.flatMap_cons, List.flatMap_nil, List.append_nil]; congr 2; simp [rd_T78, h]
theorem frb {w w' : World} (h : Fr Non w w') : Below w.heap.size w w' := h.below (Nat.le_refl _) (fun _ _ h => h)
theorem bfr {w w' : World} (h : Below w.heap.size w w') : Fr Non w w' := Fr.of_below h (fun b h1 h2 => by omega)
theorem b_size {w w' : World} (h : Below w.heap.size w w') : w.heap.size ≤ w'.heap.size := h.size
/-- What the loop's head holds. -/
structure TxtS (cs : List Cell) (w : World) (k : Nat) (v : Value) (wr : World) : Prop where
  own : (Kd.int .i32).R 21 wr w.heap.size (fun _ => True) v (runesT (cs.take k))
  fr : Below w.heap.size w wr
set_option maxHeartbeats 1600000 in
set_option maxRecDepth 100000 in
theorem text_any (A : Option Addr) (c : Nat) (cs : List Cell) (w : World) (hC : Kd.C k78 w A cs.length cs) (hl : cs.length ≤ 1000000) :
    Calls Tryd.prog 49 #[.slice A cs.length c] w fun e w' => e = .returned (.string (textP cs)) ∧ Below w.heap.size w w' := by
  obtain ⟨len, hlen⟩ : ∃ len, cs.length = len := ⟨_, rfl⟩
  have HC := Lib.hid hC
  rw [hlen] at hl HC ⊢
  have HL := Lib.hid hlen
  clear hC hlen
  go_enter Tryd.func49, Tryd.ntmps49
  go_wp2
  go_loopw [3, 4] (fun v i wr => ∃ k : Nat, k ≤ len ∧ i = .int .i64 k ∧ TxtS cs w k v wr) (fun _ i _ => len - (intOf i).toNat)
  case atStart => exact ⟨0, Nat.zero_le _, rfl, Kd.R_nil _ _ _ _ _, Below.refl _ _⟩
  case round =>
    obtain ⟨k, hk, rfl, hS⟩ := hrel
    by_cases hlt : k < len
    · have hkl : k < cs.length := by have := HL.out; omega
      have hC2 := Kd.C_below HC.out hS.fr
      have hst := runesT_take cs k hkl
      have hb := runesT_len (cs.take k)
      have hb2 : (cs.take k).length ≤ k := List.length_take_le _ _
      have hsz := b_size hS.fr
      have HS := Lib.hid hS
      clear hS
      obtain ⟨ad, rfl, hx0, -, -, -, -, -⟩ := at_T78 hC2 (k : Int) (by omega) (by omega)
      obtain ⟨x, hx⟩ : ∃ x, rd_T78 cs k = x := ⟨_, rfl⟩
      rw [hx, Int.toNat_natCast] at hx0
      rw [hx] at hst
      have HST := Lib.hid hst
      clear hst hx hC2
      by_cases h1 : x.f0 = 32
      · have h1b : (x.f0 == 32) = true := by simp [h1]
        have hr : runeP x = [46] := by simp [runeP, h1]
        have HR := Lib.hid hr
        clear hr
        go_wp2_with ((at_builtin; refine Kd.R_append (Kd.int .i32) (w0 := w) w.heap.size rfl (.tmp 27) (.tmp 28) 110 21 (.int .i32 0) 4 rfl Tryd.underlying110 info21r rfl (by decide) (by omega) u3 (runesT (cs.take k)) 46 [.int .i32 46] (fun _ => True) (fun _ => False) rfl rfl rfl (fun _ hk => hk.elim) (fun _ _ => trivial) HS.out.own HS.out.fr hsz (by omega) ?_; intro v1 w1 hO1 hB1 _ _; have HO1 := Lib.hid hO1; have HB1 := Lib.hid hB1; clear hO1 hB1))
        go_roundw
        case rel => exact ⟨k + 1, by omega, by go_num, by rw [HST.out, HR.out]; exact HO1.out, HB1.out⟩
        case measure => simp [intOf]; omega
      · by_cases h2 : x.f0 = -1
        · have h1b : (x.f0 == 32) = false := by simp [h1]
          have h2b : (x.f0 == -1) = true := by simp [h2]
          have hr : runeP x = [] := by simp [runeP, h2]
          have HR := Lib.hid hr
          clear hr
          go_wp2
          go_roundw
          case rel => exact ⟨k + 1, by omega, by go_num, by rw [HST.out, HR.out, List.append_nil]; exact HS.out.own, HS.out.fr⟩
          case measure => simp [intOf]; omega
        · have h1b : (x.f0 == 32) = false := by simp [h1]
          have h2b : (x.f0 == -1) = false := by simp [h2]
          have hr : runeP x = [wrap32 x.f0] := by simp [runeP, h1, h2]
          have HR := Lib.hid hr
          clear hr
          go_wp2_with ((at_builtin; refine Kd.R_append (Kd.int .i32) (w0 := w) w.heap.size rfl (.tmp 16) (.tmp 23) 110 21 (.int .i32 0) 4 rfl Tryd.underlying110 info21r rfl (by decide) (by omega) u3 (runesT (cs.take k)) (wrap32 x.f0) [.int .i32 (wrap32 x.f0)] (fun _ => True) (fun _ => False) rfl rfl rfl (fun _ hk => hk.elim) (fun _ _ => trivial) HS.out.own HS.out.fr hsz (by omega) ?_; intro v1 w1 hO1 hB1 _ _; have HO1 := Lib.hid hO1; have HB1 := Lib.hid hB1; clear hO1 hB1))
          go_roundw
          case rel => exact ⟨k + 1, by omega, by go_num, by rw [HST.out, HR.out]; exact HO1.out, HB1.out⟩
          case measure => simp [intOf]; omega
    · have hkl : k = len := by omega
      subst hkl
      obtain ⟨hO, hB⟩ := hS
      rw [List.take_of_length_le (by have := HL.out; omega)] at hO
      obtain ⟨A', c', rfl, hc', hCr⟩ := Kd.R_reads hO
      have hcv : (convert 110 9 (.slice A' (runesT cs).length c')).run Tryd.prog wr = .ok (.string (textP cs)) wr := by
        rcases Nat.eq_zero_or_pos (runesT cs).length with h0 | h0
        · have ht : textP cs = ByteArray.empty := by unfold textP; rw [List.length_eq_zero_iff.1 h0]; rfl
          rw [List.length_eq_zero_iff.1 h0, ht]
          cases A' with
          | none => exact run_convert_runes_nil wr _ _ _ _ _ Tryd.underlying110 Tryd.underlying21 Tryd.underlying9
          | some a =>
            have h := run_convert_runes wr 110 9 _ a 0 c' [] (by simp) Tryd.underlying110 Tryd.underlying21 Tryd.underlying9 (by intro j hj; simp at hj)
            exact h
        · obtain ⟨_, _, hA⟩ := hCr
          obtain ⟨a, rfl, hj⟩ := hA h0
          have h := run_convert_runes wr 110 9 _ a (runesT cs).length c' (runesT cs) (Nat.le_refl _) Tryd.underlying110 Tryd.underlying21 Tryd.underlying9 (fun j hj' => by
            obtain ⟨cc, _, he, hcell⟩ := hj j _ (List.getElem?_eq_getElem hj')
            have he' : cc = [.int .i32 (runesT cs)[j]] := he
            have := hcell 0 (.int .i32 (runesT cs)[j]) (by rw [he']; rfl)
            simpa [hj', Kd.int, Kd.scalar] using this)
          rw [List.take_length] at h
          exact h
      have HB := Lib.hid hB
      clear hO hB hCr
      go_wp2
      go_ret
      exact ⟨rfl, HB.out⟩
end Go.Proofs.YtppjgofjjcdcdaaDoor

/- copyistlaw35.told: rows laid out and compared with texts; rows as the kit reads them. -/
namespace Go.Proofs.YtppjgofjjcdcdaaDoor
open PLayoutRows
open Go.RowKit Go.Proofs.YtppjgofjjcdcdaaDoorW.PrintWords
theorem flat_take {α : Type} (f : α → List Value) (n : Nat) (hf : ∀ x, (f x).length = n) : ∀ (l : List α) (j : Nat) (x : α), l[j]? = some x → ((l.flatMap f).drop (j * n)).take n = f x
  | [], j, x, h => by simp at h
  | y :: l, 0, x, h => by
    simp at h; subst h
    rw [Nat.zero_mul, List.drop_zero, List.flatMap_cons, List.take_append_of_le_length (by rw [hf]; exact Nat.le_refl _), ← hf y, List.take_length]
  | y :: l, j + 1, x, h => by
    have ih := flat_take f n hf l j x (by simpa using h)
    rw [List.flatMap_cons, List.drop_append, List.drop_of_length_le (by rw [hf, Nat.succ_mul]; omega), hf, List.nil_append, show (j + 1) * n - n = j * n by rw [Nat.succ_mul]; omega]
    exact ih
theorem flat_len' {α : Type} (f : α → List Value) (n : Nat) (hf : ∀ x, (f x).length = n) : ∀ (l : List α), (l.flatMap f).length = l.length * n
  | [] => by simp
  | y :: l => by rw [List.flatMap_cons, List.length_append, hf, flat_len' f n hf l, List.length_cons, Nat.succ_mul]; omega
theorem block_reads {α : Type} {R : α → List Value → Prop} {W : World} {g : Nat} {t : TypeId} {fr : Nat × Nat} (f : α → List Value) (n : Nat) (hf : ∀ x, (f x).length = n) (hR : ∀ x, R x (f x)) (l : List α) (hl : l.length ≤ 9223372036854775807)
    (h : W.heap[g]? = some (.cells (l.flatMap f).toArray t fr)) : ReadsRow R n W (some ⟨g, 0, none⟩) l.length l := by
  refine ⟨rfl, hl, fun _ => ⟨_, rfl, fun j p hp => ⟨f p, hf p, hR p, fun i u hu => ?_⟩⟩⟩
  have hadd : (⟨g, 0, none⟩ : Addr).add (j * n + i) = ⟨g, j * n + i, none⟩ := by unfold Addr.add; split <;> simp_all
  rw [hadd]
  refine cell_row h ?_
  have hi : i < n := by have := (List.getElem?_eq_some_iff.1 hu).1; rw [hf] at this; exact this
  have h1 := flat_take f n hf l j p hp
  rw [List.getElem?_toArray]
  have h2 : (((l.flatMap f).drop (j * n)).take n)[i]? = some u := by rw [h1]; exact hu
  rw [List.getElem?_take_of_lt hi, List.getElem?_drop] at h2
  exact h2
theorem cellB_C {W : World} {g : Nat} {cs : List Cell} (h : W.heap[g]? = some (cellB cs)) (hl : cs.length ≤ 9223372036854775807) : Kd.C k78 W (some ⟨g, 0, none⟩) cs.length cs :=
  block_reads cellV 6 (fun _ => rfl) (fun x => k78_mk W x) cs hl h
theorem posB_C {W : World} {q : Nat} {P : List Int} (h : W.heap[q]? = some (posB P)) (hl : P.length ≤ 9223372036854775807) : Kd.C (Kd.int .i64) W (some ⟨q, 0, none⟩) P.length P :=
  block_reads (R := (Kd.int .i64).K W) (fun z => [Value.int .i64 z]) 1 (fun _ => rfl) (fun _ => rfl) P hl (by
    have e : ∀ P : List Int, P.flatMap (fun z => [Value.int .i64 z]) = P.map (Value.int .i64) := fun P => by induction P with | nil => rfl | cons z P ih => rw [List.flatMap_cons, ih]; rfl
    rw [e]; exact h)
theorem OutAt.toC {W : World} {base : Nat} {v : Value} {ds : List RowD} (h : OutAt W base v ds) (hd : ∀ d ∈ ds, d.row.f0.length ≤ 9223372036854775807 ∧ d.row.f1.length ≤ 9223372036854775807) :
    ∃ A c, v = .slice A ds.length c ∧ ds.length ≤ c ∧ Kd.C k39 W A ds.length (ds.map RowD.row) := by
  have hK : ∀ d ∈ ds, k39.K W d.row (rowV d) := by
    intro d hm
    obtain ⟨_, _, h3, h4⟩ := h.at_ d hm
    exact k39_mk W d.row (Nat.le_refl _) (cellB_C h3 (hd d hm).1) (Nat.le_refl _) (posB_C h4 (hd d hm).2)
  have hr : Reps (k39.K W) 5 (ds.map RowD.row) (rowsV ds) := by
    refine ⟨by rw [rowsV_len, List.length_map], fun j p hp => ?_⟩
    rw [List.getElem?_map, Option.map_eq_some_iff] at hp
    obtain ⟨d, hd', rfl⟩ := hp
    rw [show (rowsV ds).drop (j * 5) = (ds.flatMap rowV).drop (j * 5) from rfl, flat_take rowV 5 (fun _ => rfl) ds j d hd']
    exact hK d (List.mem_of_getElem? hd')
  have ho : OwnRow (k39.K W) 39 5 W base v (ds.map RowD.row) := ⟨rowsV ds, by rw [List.length_map]; exact h.own, hr⟩
  obtain ⟨A, c, he, hl, hrd⟩ := OwnRow.reads ho
  rw [List.length_map] at he hl hrd
  exact ⟨A, c, he, hl, hrd⟩
theorem below_on {a b c : World} (h : Below a.heap.size a b) (k : Below b.heap.size b c) : Below a.heap.size a c := h.trans (k.mono h.size)
theorem upon_id {P : Program} {o : Oper} {a : Act} {K : Act → World → Prop} {Q : Exit → Act → World → Prop} {r : Result Next} (h : o.upon P a K Q r) : o.upon P a K Q r := h
theorem ret_v {v : Value} {A : Option Addr} {n c m : Nat} (h : v = .slice A n c) (hm : n = m) : Ending.returned (.slice A m c) = .returned v := by rw [h, hm]
set_option maxHeartbeats 1600000 in
set_option maxRecDepth 100000 in
theorem told_yes (A : Option Addr) (cap : Nat) (l : List Part) (to_ : Int) (wrap : Bool) (Aw : Option Addr) (cw : Nat) (wants : List ByteArray) (rs : List Row) (w : World) (hd : Kd.C k55 w A l.length l) (hT : Tabs w) (hs : ∀ p ∈ l, p.f3.size ≤ 1000000) (hll : l.length ≤ 1000)
    (hW : Kd.C Kd.string w Aw wants.length wants) (hr : rowsP l 1 to_ 8 4 wrap 100 = (rs, 0)) (hn : rs.length = wants.length) (hlen : ∀ r ∈ rs, r.f0.length ≤ 1000000 ∧ r.f1.length ≤ 1000000) (ht : ∀ k, k < wants.length → textP (rs.getD k z39).f0 = wants.getD k ⟨#[]⟩) :
    Calls Tryd.prog 32 #[.slice A l.length cap, .int .i64 to_, .bool wrap, .slice Aw wants.length cw] w fun e w' => ∃ v ds, e = .returned v ∧ OutAt w' w.heap.size v ds ∧ ds.map RowD.row = rs ∧ Fr Non w w' := by
  have HROWS := Lib.hid (fun W (h : Below w.heap.size w W) => callsIn_wide.1 (rows_any A cap l 1 to_ 8 4 wrap 100 W (Kd.C_below hd h) (hT.below h) hs hll))
  rw [hr] at HROWS
  obtain ⟨m, hm⟩ : ∃ m, wants.length = m := ⟨_, rfl⟩
  have hmb : m ≤ 9223372036854775807 := by have := hW.2.1; omega
  have HW := Lib.hid hW
  have HN := Lib.hid hn
  have HLEN := Lib.hid hlen
  have HTX := Lib.hid ht
  have HM := Lib.hid hm
  clear hd hT hs hll hW hr hn hlen ht
  rw [hm]
  clear hm
  go_enter Tryd.func32, Tryd.ntmps32
  go_wp2_with (go_at_call 12; refine (HROWS.out _ (Below.refl _ _)).mono ?_; rintro e w1 ⟨v, ds, rfl, ho, hmap, hf⟩)
  have hds : ds.length = m := by rw [← HM.out, ← HN.out, ← hmap, List.length_map]
  have hmem : ∀ d ∈ ds, d.row ∈ rs := fun d h => by rw [← hmap]; exact List.mem_map_of_mem h
  obtain ⟨A1, c1, rfl, hc1, hC1⟩ := ho.toC (fun d h => by have := HLEN.out _ (hmem d h); omega)
  rw [hmap] at hC1
  have HO := Lib.hid ho
  have HMAP := Lib.hid hmap
  have HF := Lib.hid hf
  have HC := Lib.hid hC1
  have HDS := Lib.hid hds
  clear ho hmap hf hC1 hmem
  rw [hds] at HC HO ⊢
  clear hds
  go_wp2_with (with_reducible refine upon_id ?_; go_simp)
  go_loopw [11] (fun i wr => ∃ k : Nat, k ≤ m ∧ i = .int .i64 k ∧ Below w1.heap.size w1 wr) (fun i _ => m - (intOf i).toNat)
  case atStart => exact ⟨0, Nat.zero_le _, rfl, Below.refl _ _⟩
  case round =>
    obtain ⟨k, hk, rfl, hB⟩ := hrel
    by_cases hlt : k < m
    · have hC2 := Kd.C_below HC.out hB
      have hW2 := Kd.C_below (Kd.C_below HW.out HF.out.toBelow) hB
      rw [HM.out] at hW2
      obtain ⟨ad, A0, c0, A2, c2, rfl, hx0, -, -, -, -, -, hg0, -, -⟩ := at_T39 hC2 (k : Int) (by omega) (by omega)
      obtain ⟨ax, rfl, hy⟩ := Kd.at_string hW2 (k : Int) (by omega) (by omega)
      have hlen0 : (rd_T39 rs (k : Int)).f0.length ≤ 1000000 := by
        have hkr : k < rs.length := by have := HN.out; have := HM.out; omega
        have := (HLEN.out (rs[k]) (List.getElem_mem hkr)).1
        simpa [rd_T39, hkr] using this
      have htx : textP (rd_T39 rs (k : Int)).f0 = rdOf ByteArray.empty wants (k : Int) := HTX.out k (by have := HM.out; omega)
      rw [Int.toNat_natCast] at hx0 hy
      obtain ⟨cs, hcs⟩ : ∃ cs, (rd_T39 rs (k : Int)).f0 = cs := ⟨_, rfl⟩
      obtain ⟨ws, hws⟩ : ∃ ws, rdOf ByteArray.empty wants (k : Int) = ws := ⟨_, rfl⟩
      rw [hcs] at hx0 hg0 htx hlen0
      rw [hws] at hy htx
      have HB := Lib.hid hB
      have HTXT := Lib.hid (fun W (h : Below wr.heap.size wr W) => text_any A0 c0 cs W (Kd.C_below hg0 h) hlen0)
      rw [htx] at HTXT
      clear hC2 hW2 hg0 htx hcs hws hB hlen0
      go_upto_region 7 with (fail)
      go_cut [44] (fun v wc => v = .bool false ∧ Below w1.heap.size w1 wc)
      case first =>
        go_region_held3 (fun W' => W'.cell? (ad.add (k * 5)) = some (.slice A0 cs.length c0) ∧ W'.cell? (ax.add k) = some (.string ws) ∧ Below wr.heap.size wr W') ((refine ⟨?_, ?_, ?_⟩ <;> first | (with_reducible assumption) | (with_reducible exact cell_later (by assumption) (And.left ‹_ ∧ _ ∧ Below _ _ _›)) | (with_reducible exact cell_later (by assumption) (And.left (And.right ‹_ ∧ _ ∧ Below _ _ _›))) | (with_reducible exact below_on (And.right (And.right ‹_ ∧ _ ∧ Below _ _ _›)) (by assumption)) | exact below_drew1 (Below.refl _ _) | go_keep))
          (first | (go_at_call 49; refine (HTXT.out _ ?_).mono ?_; (exact And.right (And.right ‹_ ∧ _ ∧ Below _ _ _›)); rintro e w' ⟨rfl, hb⟩))
        go_wp2
        go_meet
        case rel =>
          exact ⟨rfl, below_on HB.out (And.right (And.right ‹_ ∧ _ ∧ Below wr.heap.size wr _›))⟩
      case rest =>
        obtain ⟨rfl, hB3⟩ := hcut
        go_wp2
        go_roundw
        case rel => exact ⟨k + 1, by omega, by go_num, hB3⟩
        case measure => simp [intOf]; omega
    · have hkm : k = m := by omega
      subst hkm
      have ho2 := HO.out.kept (bfr hB) (fun _ _ => id) (fun _ _ => ⟨id, id⟩)
      have hf2 := HF.out.trans (bfr hB)
      have HO2 := Lib.hid ho2
      have HF2 := Lib.hid hf2
      clear hB ho2 hf2
      go_wp2
      go_ret
      exact ⟨_, ds, rfl, HO2.out, HMAP.out, HF2.out⟩
end Go.Proofs.YtppjgofjjcdcdaaDoor

/- copyistlaw35.awake: it holds. -/
namespace Go.Proofs.YtppjgofjjcdcdaaDoor
open PLayoutRows
open Go.RowKit Go.Proofs.YtppjgofjjcdcdaaDoorW.PrintWords
/-- An operation whose guard lets it be run. -/
theorem wpList_unguard {P : Program} {ops : Array Oper} {Q : Exit → Act → World → Prop} {a : Act} {w : World} {rest : List Oper} {d : Option Tmp} {op : Op} {ty : TypeId} {pos : String} {af : Array Edge} {g : Nat × Bool}
    (hw : Region.wanted ⟨d, op, ty, pos, af, some g⟩ (yielded ops a.tmps) = true) (h : wpList P ops Q (⟨d, op, ty, pos, af, none⟩ :: rest) a w) : wpList P ops Q (⟨d, op, ty, pos, af, some g⟩ :: rest) a w := by
  have h1 : Region.wanted ⟨d, op, ty, pos, af, none⟩ (yielded ops a.tmps) = true := rfl
  simp only [wpList, h1, hw, if_true] at h ⊢
  exact h
theorem own_any (a : Int) (s : ByteArray) (t : Int) (ht : wrap64 (a + (s.size : Int)) = t) (w : World) :
    Calls Tryd.prog 30 #[.int .i64 a, .string s] w fun e w' => e = .returned (.agg #[.int .i64 0, .int .i64 a, .int .i64 t, .string s, .int .i64 0, .int .i64 0, .bool false, .bool false, .bool false]) ∧ Below w.heap.size w w' :=
  copyistlaw35_own.calls a s 0 a t s 0 0 false false false w (by rw [← ht]; rfl)
theorem parts_C {W : World} {g : Nat} {ps : List Part} (h : W.heap[g]? = some (.cells (ps.flatMap (fun p => (partV p).toList)).toArray 55 (0, 0))) (hl : ps.length ≤ 1000) : Kd.C k55 W (some ⟨g, 0, none⟩) ps.length ps :=
  block_reads (fun p => (partV p).toList) 9 (fun _ => rfl) (fun x => k55_mk W x) ps (by omega) h
theorem strs_C {W : World} {g : Nat} {ss : List ByteArray} (h : W.heap[g]? = some (.cells (ss.map Value.string).toArray 9 (0, 0))) (hl : ss.length ≤ 1000) : Kd.C Kd.string W (some ⟨g, 0, none⟩) ss.length ss := by
  refine block_reads (R := Kd.string.K W) (fun z => [Value.string z]) 1 (fun _ => rfl) (fun _ => rfl) ss (by omega) (fr := (0, 0)) (t := 9) ?_
  have e : ∀ P : List ByteArray, P.flatMap (fun z => [Value.string z]) = P.map Value.string := fun P => by induction P with | nil => rfl | cons z P ih => rw [List.flatMap_cons, ih]; rfl
  rw [e]; exact h
/-- What told returns if all is as wanted: rows, n of them. -/
theorem told_lit {l : List Part} {wants : List ByteArray} {rs : List Row} {n1 n2 : Nat} (h1 : l.length = n1) (h2 : wants.length = n2 + 1) (A : Option Addr) (cap : Nat) (Aw : Option Addr) (cw : Nat) (to_ : Int) (wrap : Bool) (w : World) (hd : Kd.C k55 w A n1 l) (hT : Tabs w)
    (hs : ∀ p ∈ l, p.f3.size ≤ 1000000) (hll : l.length ≤ 1000) (hW : Kd.C Kd.string w Aw (n2 + 1) wants) (hr : rowsP l 1 to_ 8 4 wrap 100 = (rs, 0)) (hlen : ∀ r ∈ rs, r.f0.length ≤ 1000000 ∧ r.f1.length ≤ 1000000) (ht : rs.map (fun r => textP r.f0) = wants) :
    Calls Tryd.prog 32 #[.slice A n1 cap, .int .i64 to_, .bool wrap, .slice Aw (n2 + 1) cw] w fun e w' => ∃ ad c, e = .returned (.slice (some ad) (n2 + 1) c) ∧ n2 + 1 ≤ c ∧ Kd.C k39 w' (some ad) (n2 + 1) rs ∧ Below w.heap.size w w' := by
  subst h1
  rw [← h2] at hW ⊢
  have hn : rs.length = wants.length := by rw [← ht, List.length_map]
  refine (told_yes A cap l to_ wrap Aw cw wants rs w hd hT hs hll hW hr hn hlen ?_).mono ?_
  · intro k hk
    subst ht
    rw [List.length_map] at hk
    simp [hk]
  · rintro e w' ⟨v, ds, rfl, ho, hmap, hf⟩
    have hds : ds.length = wants.length := by rw [← hn, ← hmap, List.length_map]
    obtain ⟨A1, c1, rfl, hc1, hC1⟩ := ho.toC (fun d h => by have := hlen d.row (by rw [← hmap]; exact List.mem_map_of_mem h); omega)
    rw [hds, hmap] at hC1
    obtain ⟨ad, rfl, _⟩ := hC1.2.2 (by omega)
    exact ⟨ad, c1, by rw [hds], by omega, hC1, hf.toBelow⟩
def wabc : Part := ⟨0, 1, 4, ⟨#[97, 98, 99]⟩, z53⟩
def wlong : Part := ⟨0, 1, 11, ⟨#[97, 98, 99, 100, 101, 102, 103, 104, 105, 106]⟩, z53⟩
def wmixed : List Part := [⟨2, 1, 1, ⟨#[62, 43]⟩, z53⟩, ⟨0, 1, 2, ⟨#[120]⟩, z53⟩, ⟨1, 2, 5, ⟨#[43, 43]⟩, z53⟩, ⟨0, 5, 6, ⟨#[121]⟩, z53⟩]
def rabc : List Row := (rowsP [wabc] 1 4 8 4 true 100).1
def rlong : List Row := (rowsP [wlong] 1 11 8 4 true 100).1
def rmixed : List Row := (rowsP wmixed 1 6 8 4 true 100).1
def sAbc : ByteArray := ⟨#[97, 98, 99, 46, 46, 46, 46, 46]⟩
def sLong1 : ByteArray := ⟨#[97, 98, 99, 100, 101, 102, 103, 92]⟩
def sLong2 : ByteArray := ⟨#[104, 105, 106, 46, 46, 46, 46, 46]⟩
def sMixed : ByteArray := ⟨#[62, 43, 120, 43, 43, 121, 46, 46]⟩
def short (rs : List Row) : Bool := rs.all fun r => decide (r.f0.length ≤ 1000000) && decide (r.f1.length ≤ 1000000)
theorem short_of {rs : List Row} (h : short rs = true) : ∀ r ∈ rs, r.f0.length ≤ 1000000 ∧ r.f1.length ≤ 1000000 := by
  intro r hr
  have := List.all_eq_true.1 h r hr
  simpa using this
def small (l : List Part) : Bool := l.all fun p => decide (p.f3.size ≤ 1000000)
theorem small_of {l : List Part} (h : small l = true) : ∀ p ∈ l, p.f3.size ≤ 1000000 := by
  intro r hr
  have := List.all_eq_true.1 h r hr
  simpa using this
theorem mixed_any (w : World) : Calls Tryd.prog 33 #[] w fun e w' => ∃ A c, e = .returned (.slice A 4 c) ∧ 4 ≤ c ∧ Kd.C k55 w' A 4 wmixed ∧ Below w.heap.size w w' := by
  refine (copyistlaw35_mixed.calls wmixed w (by kernel_rfl)).mono ?_
  rintro e w' ⟨v, rfl, hR, hb⟩
  obtain ⟨A, c, rfl, hc, hC⟩ := Kd.R_reads hR
  exact ⟨A, c, rfl, hc, hC, hb⟩
theorem ints_lit {P Q : List Int} {n1 n2 : Nat} {r : Bool} (h1 : P.length = n1) (h2 : Q.length = n2) (k : Nat) (h : copyistkit_SameInts.f k P Q = some r) (A : Option Addr) (c : Nat) (B : Option Addr) (d : Nat) (w : World) (hA : Kd.C (Kd.int .i64) w A n1 P) (hB : Kd.C (Kd.int .i64) w B n2 Q) (hc : n1 ≤ c) (hd : n2 ≤ d) :
    Calls Tryd.prog 34 #[.slice A n1 c, .slice B n2 d] w fun e w' => e = .returned (.bool r) ∧ Below w.heap.size w w' := by
  subst h1 h2
  exact (copyistkit_SameInts.calls k A c P B d Q r w hA hc hB hd h).mono fun e w' ⟨he, hw⟩ => ⟨he, hw.below⟩
end Go.Proofs.YtppjgofjjcdcdaaDoor

/- copyistlaw35.awake: it holds. -/
namespace Go.Proofs.YtppjgofjjcdcdaaDoor
open PLayoutRows
open Go.RowKit Go.Proofs.YtppjgofjjcdcdaaDoorW.PrintWords
theorem toldA (g1 g2 : Nat) (W : World) (hT : Tabs W) (h1 : W.heap[g1]? = some (.cells #[.int .i64 0, .int .i64 1, .int .i64 4, .string ⟨#[97, 98, 99]⟩, .int .i64 0, .int .i64 0, .bool false, .bool false, .bool false] 55 (0, 0)))
    (h2 : W.heap[g2]? = some (.cells #[.string ⟨#[97, 98, 99, 46, 46, 46, 46, 46]⟩] 9 (0, 0))) :
    Calls Tryd.prog 32 #[.slice (some ⟨g1, 0, none⟩) 1 1, .int .i64 4, .bool true, .slice (some ⟨g2, 0, none⟩) 1 1] W fun e w' => ∃ ad c, e = .returned (.slice (some ad) 1 c) ∧ 1 ≤ c ∧ Kd.C k39 w' (some ad) 1 rabc ∧ Below W.heap.size W w' :=
  told_lit (l := [wabc]) (wants := [sAbc]) (n2 := 0) rfl rfl _ _ _ _ 4 true W (parts_C (ps := [wabc]) h1 (by decide)) hT (small_of (by kernel_rfl)) (by decide) (strs_C (ss := [sAbc]) h2 (by decide)) (by kernel_rfl) (short_of (by kernel_rfl)) (by kernel_rfl)
theorem toldB (A : Option Addr) (c0 : Nat) (g2 : Nat) (W : World) (hT : Tabs W) (h1 : Kd.C k55 W A 4 wmixed)
    (h2 : W.heap[g2]? = some (.cells #[.string ⟨#[62, 43, 120, 43, 43, 121, 46, 46]⟩] 9 (0, 0))) :
    Calls Tryd.prog 32 #[.slice A 4 c0, .int .i64 6, .bool true, .slice (some ⟨g2, 0, none⟩) 1 1] W fun e w' => ∃ ad c, e = .returned (.slice (some ad) 1 c) ∧ 1 ≤ c ∧ Kd.C k39 w' (some ad) 1 rmixed ∧ Below W.heap.size W w' :=
  told_lit (l := wmixed) (wants := [sMixed]) (n2 := 0) rfl rfl _ _ _ _ 6 true W h1 hT (small_of (by kernel_rfl)) (by decide) (strs_C (ss := [sMixed]) h2 (by decide)) (by kernel_rfl) (short_of (by kernel_rfl)) (by kernel_rfl)
theorem toldC (g1 g2 : Nat) (W : World) (hT : Tabs W) (h1 : W.heap[g1]? = some (.cells #[.int .i64 0, .int .i64 1, .int .i64 11, .string ⟨#[97, 98, 99, 100, 101, 102, 103, 104, 105, 106]⟩, .int .i64 0, .int .i64 0, .bool false, .bool false, .bool false] 55 (0, 0)))
    (h2 : W.heap[g2]? = some (.cells #[.string ⟨#[97, 98, 99, 100, 101, 102, 103, 92]⟩, .string ⟨#[104, 105, 106, 46, 46, 46, 46, 46]⟩] 9 (0, 0))) :
    Calls Tryd.prog 32 #[.slice (some ⟨g1, 0, none⟩) 1 1, .int .i64 11, .bool true, .slice (some ⟨g2, 0, none⟩) 2 2] W fun e w' => ∃ ad c, e = .returned (.slice (some ad) 2 c) ∧ 2 ≤ c ∧ Kd.C k39 w' (some ad) 2 rlong ∧ Below W.heap.size W w' :=
  told_lit (l := [wlong]) (wants := [sLong1, sLong2]) (n2 := 1) rfl rfl _ _ _ _ 11 true W (parts_C (ps := [wlong]) h1 (by decide)) hT (small_of (by kernel_rfl)) (by decide) (strs_C (ss := [sLong1, sLong2]) h2 (by decide)) (by kernel_rfl) (short_of (by kernel_rfl)) (by kernel_rfl)
def pAbc : List Int := [1, 2, 3, 4, -1, -1, -1, -1]
def pMixed : List Int := [1, 1, 1, 2, 2, 5, 6, -1]
theorem abc_f1 : (rd_T39 rabc 0).f1 = pAbc := by kernel_rfl
theorem abc_f2 : (rd_T39 rabc 0).f2 = 1 := by kernel_rfl
theorem abc_f3 : (rd_T39 rabc 0).f3 = 4 := by kernel_rfl
theorem mixed_f1 : (rd_T39 rmixed 0).f1 = pMixed := by kernel_rfl
theorem two_at (w : World) (o o' : Obj) : ((w.alloc o).alloc o').heap[w.heap.size]? = some o := hd_alloc (World.alloc_heap_new w o)
theorem two_at' (w : World) (o o' : Obj) : ((w.alloc o).alloc o').heap[w.heap.size + 1]? = some o' := by
  have h := World.alloc_heap_new (w.alloc o) o'
  rw [World.size_alloc] at h
  exact h
set_option maxRecDepth 100000
set_option maxHeartbeats 4000000 in
theorem awake_any (w : World) (hT : Tabs w) : Calls Tryd.prog 10 #[] w fun e w' => e = .returned (.bool true) ∧ Below w.heap.size w w' := by
  have HT := Lib.hid (fun W (h : Below w.heap.size w W) => hT.below h)
  clear hT
  go_enter Tryd.func10, Tryd.ntmps10
  go_wp2_with fail
  refine (own_any 1 ⟨#[97, 98, 99]⟩ 4 (by kernel_rfl) _).mono ?_
  rintro e w1 ⟨rfl, hb1⟩
  have HB1 := Lib.hid hb1
  clear hb1
  go_wp2_with fail
  refine (toldA _ _ _ (HT.out _ (below_alloc (below_alloc HB1.out _) _)) (two_at _ _ _) (two_at' _ _ _)).mono ?_
  rintro e w2 ⟨ad, c, rfl, hc, hC, hb⟩
  have HB2 := Lib.hid (below_on (below_alloc (below_alloc HB1.out _) _) hb)
  have HC := Lib.hid hC
  clear hC hb HB1
  go_wp2_with fail
  refine (mixed_any _).mono ?_
  rintro e w3 ⟨A3, c3, rfl, hc3, hC3, hb3⟩
  have HB3 := Lib.hid hb3
  have HC3 := Lib.hid hC3
  clear hb3 hC3
  go_wp2_with fail
  refine (toldB A3 c3 _ _ (HT.out _ (below_alloc (below_on HB2.out HB3.out) _)) (Kd.C_below HC3.out (below_alloc (Below.refl _ _) _)) (World.alloc_heap_new _ _)).mono ?_
  rintro e w4 ⟨bd, d, rfl, hd, hD, hb⟩
  have HB4 := Lib.hid (below_on (below_alloc (below_on HB2.out HB3.out) _) hb)
  have HC4 := Lib.hid (Kd.C_below (Kd.C_below HC.out HB3.out) (below_on (below_alloc (Below.refl _ _) _) hb))
  have HD := Lib.hid hD
  clear hD hb HB3 HB2 HC3 HC
  obtain ⟨_, A0, c0, A1, c1, e1, -, x1, x2, x3, -, -, -, l1, g1⟩ := at_T39 HC4.out 0 (by decide) (by decide)
  obtain ⟨_, B0, d0, B1, d1, e2, -, y1, -, -, -, -, -, m1, k1⟩ := at_T39 HD.out 0 (by decide) (by decide)
  cases e1
  cases e2
  rw [abc_f1, show pAbc.length = 8 from rfl] at x1 l1 g1
  rw [abc_f2] at x2
  rw [abc_f3] at x3
  rw [mixed_f1, show pMixed.length = 8 from rfl] at y1 m1 k1
  rw [show (0 : Int).toNat * 5 = 0 from rfl] at x1 x2 x3 y1
  simp only [Addr.add_zero'] at x1 x2 x3 y1
  have L1 := Lib.hid l1
  have M1 := Lib.hid m1
  have G1 := Lib.hid g1
  have K1 := Lib.hid k1
  clear l1 m1 g1 k1 HC4 HD
  go_wp2_with (with_reducible refine wpList_unguard (by kernel_rfl) ?_)
  refine (ints_lit (P := pAbc) (Q := pAbc) (r := true) rfl rfl 10 (by kernel_rfl) A1 c1 _ _ _ (Kd.C_below G1.out (below_alloc (Below.refl _ _) _)) (posB_C (P := pAbc) (World.alloc_heap_new _ _) (by decide)) L1.out (by decide)).mono ?_
  rintro e w5 ⟨rfl, hb⟩
  have h45 := below_on (below_alloc (Below.refl _ w4) _) hb
  replace x2 := cell_later h45 x2
  replace x3 := cell_later h45 x3
  replace y1 := cell_later h45 y1
  have HB5 := Lib.hid (below_on HB4.out h45)
  have K5 := Lib.hid (Kd.C_below K1.out h45)
  clear x1 h45 hb K1 G1 L1 HB4
  go_wp2_with (with_reducible refine wpList_unguard (by kernel_rfl) ?_)
  refine (ints_lit (P := pMixed) (Q := pMixed) (r := true) rfl rfl 10 (by kernel_rfl) B1 d1 _ _ _ (Kd.C_below K5.out (below_alloc (Below.refl _ _) _)) (posB_C (P := pMixed) (World.alloc_heap_new _ _) (by decide)) M1.out (by decide)).mono ?_
  rintro e w6 ⟨rfl, hb⟩
  have HB6 := Lib.hid (below_on (below_alloc HB5.out _) hb)
  clear x2 x3 y1 hb K5 M1 HB5
  go_wp2_with (with_reducible refine wpList_unguard (by kernel_rfl) ?_)
  refine (own_any 1 ⟨#[97, 98, 99, 100, 101, 102, 103, 104, 105, 106]⟩ 11 (by kernel_rfl) _).mono ?_
  rintro e w7 ⟨rfl, hb⟩
  have HB7 := Lib.hid (below_on HB6.out hb)
  clear hb HB6
  go_wp2_with (with_reducible refine wpList_unguard (by kernel_rfl) ?_)
  refine (toldC _ _ _ (HT.out _ (below_alloc (below_alloc HB7.out _) _)) (two_at _ _ _) (two_at' _ _ _)).mono ?_
  rintro e w8 ⟨a8, c8, rfl, hc8, hC8, hb⟩
  have HB8 := Lib.hid (below_on (below_alloc (below_alloc HB7.out _) _) hb)
  clear hC8 hb HB7
  go_wp2_with (with_reducible refine wpList_unguard (by kernel_rfl) ?_)
  go_ret
  exact ⟨rfl, HB8.out⟩
end Go.Proofs.YtppjgofjjcdcdaaDoor

/- layout.Where. -/
namespace Go.Proofs.YtppjgofjjcdcdaaDoor
open PLayoutRows
open Go.RowKit Go.Proofs.YtppjgofjjcdcdaaDoorW.PrintWords
def idxP (p : Int → Bool) (zs : List Int) : Int := Lib.idxBy (fun _ y => p y) zs default
def isP (gt : Bool) (pos : Int) (x : Int) : Bool := (x != -1) && (if gt then decide (pos < x) else (x == pos))
def scanP (p : Int → Bool) : List Row → Int → Option (Int × Int)
  | [], _ => none
  | r :: rs, i => if 0 ≤ idxP p r.f1 then some (i, idxP p r.f1) else scanP p rs (i + 1)
def whereP (rows : List Row) (pos : Int) : Int × Int × Bool :=
  match scanP (isP false pos) rows 0 with
  | some (i, k) => (i, k, true)
  | none => match scanP (isP true pos) rows 0 with
    | some (i, k) => (i, k, true)
    | none => (0, 0, false)
theorem match_eq (pb : Nat) (pos x : Int) (W : World) (h : W.cell? ⟨pb, 0, none⟩ = some (.int .i64 pos)) :
    Calls Tryd.prog 42 #[.int .i64 x, .pointer (some ⟨pb, 0, none⟩)] W fun e w' => e = .returned (.bool (x == pos)) ∧ W = w' := by
  go_enter Tryd.func42, Tryd.ntmps42
  go_wp2
  go_ret
  exact ⟨rfl, rfl⟩
theorem match_gt (pb : Nat) (pos x : Int) (W : World) (h : W.cell? ⟨pb, 0, none⟩ = some (.int .i64 pos)) :
    Calls Tryd.prog 43 #[.int .i64 x, .pointer (some ⟨pb, 0, none⟩)] W fun e w' => e = .returned (.bool (decide (pos < x))) ∧ W = w' := by
  go_enter Tryd.func43, Tryd.ntmps43
  go_wp2
  go_ret
  exact ⟨rfl, rfl⟩
def fnOf (gt : Bool) : Nat := if gt then 43 else 42
theorem match_any (gt : Bool) (mb pb : Nat) (pos x : Int) (W : World) (h : W.cell? ⟨pb, 0, none⟩ = some (.int .i64 pos)) (hm : W.cell? ⟨mb, 0, none⟩ = some (.func (.func (fnOf gt)) #[] #[.pointer (some ⟨pb, 0, none⟩)])) :
    Calls Tryd.prog 45 #[.int .i64 x, .pointer (some ⟨mb, 0, none⟩)] W fun e w' => e = .returned (.bool (isP gt pos x)) ∧ W = w' := by
  by_cases hx : x = -1
  · have hb : (x != -1) = false := by simp [hx]
    have hr : isP gt pos x = false := by simp [isP, hx]
    rw [hr]
    clear hr hx
    go_enter Tryd.func45, Tryd.ntmps45
    go_wp2
    go_ret
    exact ⟨rfl, rfl⟩
  · have hb : (x != -1) = true := by simp [hx]
    cases gt with
    | true =>
      have hr : isP true pos x = decide (pos < x) := by simp [isP, hx]
      rw [hr]
      have hm2 : W.cell? ⟨mb, 0, none⟩ = some (.func (.func 43) #[] #[.pointer (some ⟨pb, 0, none⟩)]) := hm
      have H := Lib.hid h
      clear hr hx h hm
      go_enter Tryd.func45, Tryd.ntmps45
      go_wp2_with (go_at_call 43; refine (match_gt _ _ _ _ H.out).mono ?_; rintro e w' ⟨rfl, rfl⟩)
      go_ret
      exact ⟨rfl, rfl⟩
    | false =>
      have hr : isP false pos x = (x == pos) := by simp [isP, hx]
      rw [hr]
      have hm2 : W.cell? ⟨mb, 0, none⟩ = some (.func (.func 42) #[] #[.pointer (some ⟨pb, 0, none⟩)]) := hm
      have H := Lib.hid h
      clear hr hx h hm
      go_enter Tryd.func45, Tryd.ntmps45
      go_wp2_with (go_at_call 42; refine (match_eq _ _ _ _ H.out).mono ?_; rintro e w' ⟨rfl, rfl⟩)
      go_ret
      exact ⟨rfl, rfl⟩
theorem idx_step (p : Int → Bool) (zs : List Int) (k : Nat) (h : k < zs.length) : Lib.idxByFrom (fun _ y => p y) (default : Int) (zs.drop k) k = if p (zs.getD k 0) then (k : Int) else Lib.idxByFrom (fun _ y => p y) (default : Int) (zs.drop (k + 1)) (k + 1) := by
  rw [List.drop_eq_getElem_cons h]
  simp only [Lib.idxByFrom]
  simp [h]
theorem at_int {w : World} {A : Option Addr} {n : Nat} {xs : List Int} (h : Kd.C (Kd.int .i64) w A n xs) (k : Nat) (h1 : k < n) : ∃ ad, A = some ad ∧ w.cell? (ad.add k) = some (.int .i64 (xs.getD k 0)) := by
  obtain ⟨ad, c, e, _, hK, hc⟩ := Kd.C_get h 0 (k : Int) (by omega) (by omega)
  have hK' : c = [.int .i64 (xs.getD (k : Int).toNat 0)] := hK
  have := hc 0 _ (by rw [hK']; rfl)
  rw [Int.toNat_natCast] at this
  exact ⟨ad, e, by simpa [Kd.int, Kd.scalar] using this⟩
set_option maxRecDepth 100000 in
set_option maxHeartbeats 1600000 in
theorem index_any (gt : Bool) (mb pb : Nat) (pos : Int) (A : Option Addr) (c : Nat) (zs : List Int) (n : Nat) (hn : zs.length = n) (w : World) (hC : Kd.C (Kd.int .i64) w A n zs) (h : w.cell? ⟨pb, 0, none⟩ = some (.int .i64 pos)) (hm : w.cell? ⟨mb, 0, none⟩ = some (.func (.func (fnOf gt)) #[] #[.pointer (some ⟨pb, 0, none⟩)])) :
    Calls Tryd.prog 44 #[.slice A n c, .func (.func 45) #[] #[.pointer (some ⟨mb, 0, none⟩)]] w fun e w' => e = .returned (.int .i64 (idxP (isP gt pos) zs)) ∧ w = w' := by
  have hnb : n ≤ 9223372036854775807 := hC.2.1
  obtain ⟨r, hr⟩ : ∃ r, idxP (isP gt pos) zs = r := ⟨_, rfl⟩
  rw [hr]
  have HR := Lib.hid hr
  have HC := Lib.hid hC
  have HM := Lib.hid (fun x => match_any gt mb pb pos x w h hm)
  have HN := Lib.hid hn
  obtain ⟨p, hp⟩ : ∃ p, isP gt pos = p := ⟨_, rfl⟩
  simp only [hp] at HR HM
  clear hr hC h hm hp hn
  go_enter Tryd.func44, Tryd.ntmps44
  go_wp2
  go_loop [8] (fun i => ∃ k : Nat, i = .int .i64 k ∧ k ≤ n ∧ Lib.idxByFrom (fun _ y => p y) (default : Int) (zs.drop k) k = r) (fun i => n - (intOf i).toNat)
  case atStart => exact ⟨0, rfl, Nat.zero_le _, HR.out⟩
  case round =>
    obtain ⟨k, rfl, hk, hi⟩ := hrel
    by_cases hlt : k < n
    · obtain ⟨ad, rfl, hx⟩ := at_int HC.out k hlt
      rw [idx_step p zs k (by have := HN.out; omega)] at hi
      obtain ⟨x, hxx⟩ : ∃ x, zs.getD k 0 = x := ⟨_, rfl⟩
      rw [hxx] at hi hx
      clear hxx
      cases hpx : p x with
      | true =>
        rw [hpx, if_pos rfl] at hi
        subst hi
        have HX := Lib.hid (HM.out x)
        rw [hpx] at HX
        clear hpx
        go_wp2_with (go_at_call 45; refine HX.out.mono ?_; rintro e w' ⟨rfl, rfl⟩)
        go_ret
        exact ⟨rfl, rfl⟩
      | false =>
        rw [hpx, if_neg (by simp)] at hi
        have HX := Lib.hid (HM.out x)
        rw [hpx] at HX
        have HI := Lib.hid hi
        clear hpx hi
        go_wp2_with (go_at_call 45; refine HX.out.mono ?_; rintro e w' ⟨rfl, rfl⟩)
        go_round
        case rel => exact ⟨k + 1, by go_num, by omega, HI.out⟩
        case measure => simp [intOf]; omega
    · have hkn : k = n := by omega
      subst hkn
      have hr : r = -1 := by rw [← hi, List.drop_of_length_le (by have := HN.out; omega)]; rfl
      clear hi HR
      subst hr
      go_wp2
      go_ret
      exact ⟨rfl, rfl⟩
end Go.Proofs.YtppjgofjjcdcdaaDoor

/- slices.Backward over whole numbers, and layout.At. -/
namespace Go.Proofs.YtppjgofjjcdcdaaDoor
open PLayoutRows
open Go.RowKit Go.Proofs.YtppjgofjjcdcdaaDoorW.PrintWords
attribute [local go_sem] Oper.semAt_some
def backsTo (p : List Int) (d : Nat) : List (Int × Int) := (List.range d).map fun j => (((p.length - 1 - j : Nat) : Int), p.getD (p.length - 1 - j) 0)
def backs (p : List Int) : List (Int × Int) := backsTo p p.length
theorem backsTo_succ (p : List Int) (d : Nat) : backsTo p (d + 1) = backsTo p d ++ [(((p.length - 1 - d : Nat) : Int), p.getD (p.length - 1 - d) 0)] := by
  simp [backsTo, List.range_succ]
theorem backsTo_pre (p : List Int) (d : Nat) (h : d ≤ p.length) : backsTo p d <+: backs p := by
  obtain ⟨e, he⟩ : ∃ e, p.length = d + e := ⟨p.length - d, by omega⟩
  unfold backs
  rw [he]
  clear he h
  induction e with
  | zero => exact List.prefix_rfl
  | succ e ih =>
    refine List.IsPrefix.trans ih ?_
    rw [show d + (e + 1) = d + e + 1 by omega, backsTo_succ]
    exact List.prefix_append _ _
theorem back_make (A : Option Addr) (n c : Nat) (w : World) : Calls Tryd.prog 46 #[.slice A n c] w fun e w' => e = .returned (.func (.func 62) #[] #[.pointer (some ⟨w.heap.size, 0, none⟩)]) ∧ w' = w.alloc (.cells #[.slice A n c] 37) := by
  go_enter Tryd.func46, Tryd.ntmps46
  go_wp2
  go_ret
  exact ⟨rfl, rfl⟩
def BackRep (x : Int × Int) (a : Array Value) : Prop := a = #[.int .i64 x.1, .int .i64 x.2]
set_option maxRecDepth 100000
set_option maxHeartbeats 2000000 in
theorem back_iter (c : Cons Tryd.prog (Int × Int)) (hrep : ∀ x W O, c.Rep x #[.int .i64 x.1, .int .i64 x.2] W O)
    (bl : Nat) (A : Option Addr) (cap n : Nat) (p : List Int) (hn : p.length = n) (hit : c.items = backs p) (w0 W : World) (O0 : Nat → Prop)
    (hJ : c.J [] O0 W) (hnbl : ¬ O0 bl) (hbl : W.heap[bl]? = some (.cells #[.slice A n cap] 37 (0, 0)))
    (hd : Kd.C (Kd.int .i64) w0 A n p) (hb : Below w0.heap.size w0 W) (hbase : c.base = w0.heap.size) :
    CallsIn Fence.wide 0 Tryd.prog 62 #[.func (.yield c.l) #[] #[], .pointer (some ⟨bl, 0, none⟩)] W fun e W' => (∃ v, e = .returned v) ∧ Feeds c O0 W W' := by
  have hnb : n ≤ 9223372036854775807 := hd.2.1
  have hc0 : W.cell? ⟨bl, 0, none⟩ = some (.slice A n cap) := cell_row hbl rfl
  have HJ := Lib.hid hJ
  have HD := Lib.hid hd
  have HB := Lib.hid hb
  have HBA := Lib.hid hbase
  have HREP := Lib.hid hrep
  have HIT := Lib.hid hit
  have HBL := Lib.hid hbl
  have HN := Lib.hid hn
  clear hJ hd hb hbl hbase hrep hit hn
  refine callsIn_of_wp Tryd.func62 rfl trivial ?_ rfl
  simp only [Tryd.ntmps62, List.size_toArray, List.length_cons, List.length_nil, Nat.reduceAdd, Nat.reduceSub, Array.replicate_succ, Array.replicate_zero, List.push_toArray, List.append_toArray, List.nil_append, List.cons_append]
  gi_wp2
  gi_loopw [3] (fun i wr => ∃ (d : Nat) (O : Nat → Prop), i = .int .i64 ((n : Int) - 1 - d) ∧ d ≤ n ∧ c.J (backsTo p d) O wr ∧ ¬ O bl ∧ Step O0 O W wr) (fun i _ => (intOf i + 1).toNat)
  case atStart => exact ⟨0, O0, by simp, Nat.zero_le _, by simpa [backsTo] using HJ.out, hnbl, Step.refl _ _⟩
  case round =>
    obtain ⟨d, O, rfl, hk, hJk, hno, hS⟩ := hrel
    have hbk : Below w0.heap.size w0 wr := HB.out.trans (hS.below HB.out.size (fun b hb => by rw [← HBA.out]; exact c.own HJ.out b hb))
    by_cases hkl : d < n
    · obtain ⟨ad, rfl, hx⟩ := at_int (Kd.C_below HD.out hbk) (n - 1 - d) (by omega)
      have hbl2 := hS.at HBL.out hnbl
      have hc1 : wr.cell? ⟨bl, 0, none⟩ = some (.slice (some ad) n cap) := cell_row hbl2 rfl
      have hsz := lt_of_block hbl2
      obtain ⟨x, hxx⟩ : ∃ x, p.getD (n - 1 - d) 0 = x := ⟨_, rfl⟩
      rw [hxx] at hx
      obtain ⟨q, hq⟩ : ∃ q : Nat, n - 1 - d = q := ⟨_, rfl⟩
      rw [hq] at hx
      have hsu := backsTo_succ p d
      rw [HN.out, hxx, hq] at hsu
      have hqi : (n : Int) - 1 - d = (q : Int) := by omega
      rw [hqi]
      have hqn : q < n := by omega
      have hi : backsTo p d ++ [((q : Int), x)] <+: c.items := by
        rw [HIT.out, ← hsu]
        exact backsTo_pre p (d + 1) (by rw [HN.out]; omega)
      have hi' := hi
      obtain ⟨tm, hy, hR⟩ := c.yield hi hJk (HREP.out _ wr O)
      simp only [] at hy
      have HJK := Lib.hid hJk
      have HS := Lib.hid hS
      have HR := Lib.hid hR
      have HSU := Lib.hid hsu
      have HI := Lib.hid hi'
      have HQ := Lib.hid hqi
      clear hJk hS hbk hR hsu hi hi' hbl2 hxx hq hqi
      gi_wp2
      refine ⟨rfl, HR.out.mono ?_⟩
      rintro e W3 (⟨rfl, O3, hJ3, hS3⟩ | ⟨rfl, O3, hD3, hS3⟩)
      · have n3 := hS3.not hsz hno
        have HJ3 := Lib.hid hJ3
        have HS3 := Lib.hid hS3
        clear hJ3 hS3
        gi_wp2
        go_roundw
        case rel => exact ⟨d + 1, O3, by have := HQ.out; congr 1; omega, by omega, by rw [HSU.out]; exact HJ3.out, n3, HS.out.trans HS3.out⟩
        case measure => simp [intOf]
      · gi_wp2
        refine bodyPost_ret (results_none rfl _ _ _) rfl ?_
        exact ⟨⟨_, rfl⟩, O3, HS.out.trans hS3, .inr ⟨_, HI.out, hD3⟩⟩
    · have hkn : d = n := by omega
      subst hkn
      have hm : ((d : Nat) : Int) - 1 - (d : Int) = -1 := by omega
      rw [hm]
      have HJK := Lib.hid hJk
      have HS := Lib.hid hS
      clear hJk hS hbk hm
      gi_wp2
      go_end0
      exact ⟨⟨_, rfl⟩, O, HS.out, .inl (by rw [HIT.out]; have := HJK.out; unfold backs; rw [HN.out]; exact this)⟩
end Go.Proofs.YtppjgofjjcdcdaaDoor

/- layout.At: a round of its loop, and the consumer. -/
namespace Go.Proofs.YtppjgofjjcdcdaaDoor
open PLayoutRows
open Go.RowKit Go.Proofs.YtppjgofjjcdcdaaDoorW.PrintWords
attribute [local go_sem] Oper.semAt_some
structure StA (r : Rec) (l bx by_ : Nat) (st : LoopState) (pe : Option Code) (v : Int) (b : Bool) (W : World) : Prop where
  lrec : W.heap[l]? = some (r.at st pe)
  bx : W.heap[bx]? = some (boxI v)
  by_ : W.heap[by_]? = some (boxB b)
def OA (l bx by_ : Nat) (b : Nat) : Prop := b = l ∨ b = bx ∨ b = by_
theorem StA.ne {r : Rec} {l bx by_ : Nat} {st : LoopState} {pe : Option Code} {v : Int} {b : Bool} {W : World} (h : StA r l bx by_ st pe v b W) : l ≠ bx ∧ l ≠ by_ ∧ bx ≠ by_ :=
  ⟨ne_obj h.lrec h.bx (by intro e; cases e), ne_obj h.lrec h.by_ (by intro e; cases e), ne_type h.bx h.by_ (by decide)⟩
set_option maxRecDepth 100000
set_option maxHeartbeats 2000000 in
theorem roundA {u0 u1 u2 u3 u4 u5 u8 u9 u10 u11 u12 u13 u14 u15 u16 u17 u18 u19 u20 u21 u22 u23 u24 u25 u26 u27 u28 u29 u30 u31 u32 u33 u34 u35 u36 u37 u38 u39 u40 u41 u42 u43 u44 u45 u46 u47 u48 u49 : Value} (fn l D bx by_ : Nat) (i x : Int) (W : World) (r : Rec)
    (hr : Rec.mk fn #[u0, u1, u2, u3, u4, u5, .pointer (some ⟨bx, 0, none⟩), .pointer (some ⟨by_, 0, none⟩), u8, u9, u10, u11, u12, u13, u14, u15, u16, u17, u18, u19, u20, u21, u22, u23, u24, u25, u26, u27, u28, u29, u30, u31, u32, u33, u34, u35, u36, u37, u38, u39, u40, u41, u42, u43, u44, u45, u46, u47, u48, u49] #[45, 46] (assignOf Tryd.f22) (bodyOf Tryd.f22) D = r) (hs : StA r l bx by_ .ready none 0 false W) :
    Yields Tryd.prog r l #[.int .i64 i, .int .i64 x] W (fun W' => x = -1 ∧ StA r l bx by_ .ready none 0 false W' ∧ Fr (OA l bx by_) W W') (fun c W' => c = .ret ∧ x ≠ -1 ∧ StA r l bx by_ .done (some .ret) x true W' ∧ Fr (OA l bx by_) W W') := by
  obtain ⟨n1, n2, n3⟩ := hs.ne
  refine yields_lit hr ?_
  simp only [assignOf, bodyOf, Tryd.f22, Option.bind_some, rangeOf, Option.or_none, Option.or_some, Option.none_or, Option.some_or, Option.map_some, Option.getD_some, Option.getD_none]
  have HS := Lib.hid hs
  clear hr hs
  simp only [List.zip_toArray, List.zip_cons_cons, List.zip_nil_right, List.foldl_toArray', List.foldl_cons, List.foldl_nil, List.setIfInBounds_toArray, List.set_cons_succ, List.set_cons_zero]
  by_cases hx : x = -1
  · have hb : (x != -1) = false := by simp [hx]
    have HX := Lib.hid hx
    clear hx
    gi_wp2
    refine ⟨HS.out.lrec, ?_⟩
    generalize hW1 : W.putObj l (r.at .busy none) = W1
    have HW1 := Lib.hid hW1
    clear hW1
    gi_wp2
    rw [← HW1.out]
    have s1 : StA r l bx by_ .busy none 0 false (W.putObj l (r.at .busy none)) := ⟨ho_same HS.out.lrec, ho_other HS.out.bx (Ne.symm n1), ho_other HS.out.by_ (Ne.symm n2)⟩
    exact ⟨s1.lrec, HX.out, ⟨ho_same s1.lrec, ho_other s1.bx (Ne.symm n1), ho_other s1.by_ (Ne.symm n2)⟩, ((Fr.refl _ _).putObj _ _ (fun _ => .inl rfl)).putObj _ _ (fun _ => .inl rfl)⟩
  · have hb : (x != -1) = true := by simp [hx]
    have HX := Lib.hid hx
    clear hx
    gi_wp2
    refine ⟨HS.out.lrec, ?_⟩
    generalize hW1 : W.putObj l (r.at .busy none) = W1
    have s1 : StA r l bx by_ .busy none 0 false W1 := by rw [← hW1]; exact ⟨ho_same HS.out.lrec, ho_other HS.out.bx (Ne.symm n1), ho_other HS.out.by_ (Ne.symm n2)⟩
    have f1 : Fr (OA l bx by_) W W1 := by rw [← hW1]; exact (Fr.refl _ _).putObj _ _ (fun _ => .inl rfl)
    have HS1 := Lib.hid s1
    have HF1 := Lib.hid f1
    have c1 : W1.cell? ⟨bx, 0, none⟩ = some (.int .i64 0) := cell_row s1.bx rfl
    have c2 : W1.cell? ⟨by_, 0, none⟩ = some (.bool false) := cell_row s1.by_ rfl
    have c3 : W1.frozen? ⟨bx, 0, none⟩ = false := free_row s1.bx
    have c4 : W1.frozen? ⟨by_, 0, none⟩ = false := free_row s1.by_
    have n3' : by_ ≠ bx := Ne.symm n3
    clear hW1 s1 f1
    gi_wp2
    refine ⟨?_, ?_⟩
    · exact hs_other (hs_other HS1.out.lrec n1) n2
    · refine ⟨rfl, HX.out, ⟨ho_same (hs_other (hs_other HS1.out.lrec n1) n2), ho_other (hs_other (hs_same HS1.out.bx) n3) (Ne.symm n1), ho_other (hs_same (hs_other HS1.out.by_ n3')) (Ne.symm n2)⟩, ?_⟩
      exact ((HF1.out.setCell _ _ (fun _ => .inr (.inl rfl))).setCell _ _ (fun _ => .inr (.inr rfl))).putObj _ _ (fun _ => .inl rfl)
def consA (r : Rec) (l bx by_ base lo : Nat) (items : List (Int × Int)) (hps : r.params.size = 2) (h3 : base ≤ bx) (h4 : base ≤ l) (h5 : base ≤ by_)
    (hround : ∀ (i x : Int) (W : World), StA r l bx by_ .ready none 0 false W → Yields Tryd.prog r l #[.int .i64 i, .int .i64 x] W (fun W' => x = -1 ∧ StA r l bx by_ .ready none 0 false W' ∧ Fr (OA l bx by_) W W') (fun c W' => c = .ret ∧ x ≠ -1 ∧ StA r l bx by_ .done (some .ret) x true W' ∧ Fr (OA l bx by_) W W')) : Cons Tryd.prog (Int × Int) where
  r := r
  l := l
  lo := lo
  base := base
  stop := .ret
  items := items
  J xs O W := O = OA l bx by_ ∧ StA r l bx by_ .ready none 0 false W ∧ ∀ y ∈ xs, y.2 = -1
  D xs O W := O = OA l bx by_ ∧ ∃ ys x, xs = ys ++ [x] ∧ StA r l bx by_ .done (some .ret) x.2 true W ∧ (∀ y ∈ ys, y.2 = -1) ∧ x.2 ≠ -1
  Rep x a _ _ := BackRep x a
  ready := by rintro xs O W ⟨rfl, st, _⟩; exact ⟨st.lrec, .inl rfl⟩
  done := by rintro xs O W ⟨rfl, ys, x, _, st, _⟩; exact ⟨st.lrec, .inl rfl⟩
  own := by
    rintro xs O W ⟨rfl, st, _⟩ b (rfl | rfl | rfl)
    · exact h4
    · exact h3
    · exact h5
  ownD := by
    rintro xs O W ⟨rfl, _⟩ b (rfl | rfl | rfl)
    · exact h4
    · exact h3
    · exact h5
  stable := by
    rintro xs O W W' T ⟨rfl, st, h⟩ hf hT
    exact ⟨rfl, ⟨hf.at st.lrec (fun ht => (hT _ (lt_of_block st.lrec) ht).1 (.inl rfl)), hf.at st.bx (fun ht => (hT _ (lt_of_block st.bx) ht).1 (.inr (.inl rfl))), hf.at st.by_ (fun ht => (hT _ (lt_of_block st.by_) ht).1 (.inr (.inr rfl)))⟩, h⟩
  stableD := by
    rintro xs O W W' T ⟨rfl, ys, x, e, st, h⟩ hf hT
    exact ⟨rfl, ys, x, e, ⟨hf.at st.lrec (fun ht => (hT _ (lt_of_block st.lrec) ht).1 (.inl rfl)), hf.at st.bx (fun ht => (hT _ (lt_of_block st.bx) ht).1 (.inr (.inl rfl))), hf.at st.by_ (fun ht => (hT _ (lt_of_block st.by_) ht).1 (.inr (.inr rfl)))⟩, h⟩
  lt := by
    rintro xs O W ⟨rfl, st, _⟩ b (rfl | rfl | rfl)
    · exact lt_of_block st.lrec
    · exact lt_of_block st.bx
    · exact lt_of_block st.by_
  args := by rintro x a W O rfl; rw [hps]; rfl
  step := by
    rintro xs x a O W _ ⟨rfl, st, h⟩ rfl
    refine (hround x.1 x.2 W st).mono ?_ ?_
    · rintro W' ⟨hx, st', hf⟩
      refine ⟨OA l bx by_, ⟨rfl, st', fun y hy => ?_⟩, hf, fun b hb => .inl hb⟩
      rcases List.mem_append.1 hy with hy | hy
      · exact h y hy
      · rw [List.mem_singleton] at hy; rw [hy]; exact hx
    · rintro c W' ⟨rfl, hx, st', hf⟩
      exact ⟨OA l bx by_, ⟨rfl, xs, x, rfl, st', h, hx⟩, hf, fun b hb => .inl hb⟩
end Go.Proofs.YtppjgofjjcdcdaaDoor

/- layout.At. -/
namespace Go.Proofs.YtppjgofjjcdcdaaDoor
open PLayoutRows
open Go.RowKit Go.Proofs.YtppjgofjjcdcdaaDoorW.PrintWords
attribute [local go_sem] Oper.semAt_some
def lastP (p : List Int) : Int × Bool := match (p.reverse.find? fun x => x != -1) with
  | some x => (x, true)
  | none => (0, false)
def colP (p : List Int) (col : Int) : Int × Bool := if 0 ≤ col ∧ col < p.length ∧ p.getD col.toNat 0 ≠ -1 then (p.getD col.toNat 0, true) else lastP p
def atP (rows : List Row) (row col : Int) : Int × Bool := if row < 0 ∨ (rows.length : Int) ≤ row then (0, false) else colP (rd_T39 rows row).f1 col
theorem backs_snd (p : List Int) : (backs p).map Prod.snd = p.reverse := by
  unfold backs backsTo
  rw [List.map_map]
  apply List.ext_getElem
  · simp
  · intro i h1 h2
    simp at h1
    simp only [List.getElem_map, List.getElem_range, Function.comp]
    rw [List.getElem_reverse]
    simp [show p.length - 1 - i < p.length by omega]
theorem lastP_some {p : List Int} {ys : List (Int × Int)} {x : Int × Int} (h : ys ++ [x] <+: backs p) (h1 : ∀ y ∈ ys, y.2 = -1) (h2 : x.2 ≠ -1) : lastP p = (x.2, true) := by
  obtain ⟨zs, hz⟩ := h
  have e : p.reverse = (ys.map Prod.snd) ++ ([x.2] ++ zs.map Prod.snd) := by
    rw [← backs_snd, ← hz]; simp
  unfold lastP
  rw [e, List.find?_append, List.find?_eq_none.2 (by
    intro y hy
    obtain ⟨z, hz', rfl⟩ := List.mem_map.1 hy
    simp [h1 z hz'])]
  simp [h2]
theorem lastP_none {p : List Int} (h1 : ∀ y ∈ backs p, y.2 = -1) : lastP p = (0, false) := by
  unfold lastP
  rw [← backs_snd, List.find?_eq_none.2 (by
    intro y hy
    obtain ⟨z, hz', rfl⟩ := List.mem_map.1 hy
    simp [h1 z hz'])]
theorem wpListIn_unguard {F : Fence} {n : Nat} {P : Program} {ops : Array Oper} {Q : Exit → Act → World → Prop} {a : Act} {w : World} {rest : List Oper} {d : Option Tmp} {op : Op} {ty : TypeId} {pos : String} {af : Array Edge} {g : Nat × Bool}
    (hw : Region.wanted ⟨d, op, ty, pos, af, some g⟩ (yielded ops a.tmps) = true) (h : wpListIn F n P ops Q (⟨d, op, ty, pos, af, none⟩ :: rest) a w) : wpListIn F n P ops Q (⟨d, op, ty, pos, af, some g⟩ :: rest) a w := by
  have h1 : Region.wanted ⟨d, op, ty, pos, af, none⟩ (yielded ops a.tmps) = true := rfl
  simp only [wpListIn, h1, hw, if_true] at h ⊢
  exact h
theorem wpListIn_pass {F : Fence} {n : Nat} {P : Program} {ops : Array Oper} {Q : Exit → Act → World → Prop} {a : Act} {w : World} {rest : List Oper} {d : Option Tmp} {op : Op} {ty : TypeId} {pos : String} {af : Array Edge} {g : Nat × Bool}
    (hw : Region.wanted ⟨d, op, ty, pos, af, some g⟩ (yielded ops a.tmps) = false) (ha : (Oper.mk d op ty pos af (some g)).about P w a.eval = none) (he : a.put d undef = a) (h : wpListIn F n P ops Q rest a w) : wpListIn F n P ops Q (⟨d, op, ty, pos, af, some g⟩ :: rest) a w :=
  wpListIn_skip hw ha (by rw [show (Oper.mk d op ty pos af (some g)).dst = d from rfl, he]; exact h)
theorem results_A {tmps : Array Value} {w : World} {bx by_ : Nat} {x : Int} {b : Bool} (hx : tmps.getD 6 undef = .pointer (some ⟨bx, 0, none⟩)) (hy : tmps.getD 7 undef = .pointer (some ⟨by_, 0, none⟩)) (h1 : w.heap[bx]? = some (boxI x)) (h2 : w.heap[by_]? = some (boxB b)) :
    (results Tryd.f22 tmps).run Tryd.prog w = .ok (.tuple #[.int .i64 x, .bool b]) w := by
  have c1 : w.cell? ⟨bx, 0, none⟩ = some (.int .i64 x) := cell_row h1 rfl
  have c2 : w.cell? ⟨by_, 0, none⟩ = some (.bool b) := cell_row h2 rfl
  have hx' : tmps[6]?.getD undef = .pointer (some ⟨bx, 0, none⟩) := by simpa using hx
  have hy' : tmps[7]?.getD undef = .pointer (some ⟨by_, 0, none⟩) := by simpa using hy
  simp [results, Tryd.results22, hx', hy', go_sem, c1, c2]
theorem ends_A {tmps : Array Value} {w : World} {R : Ending → World → Prop} {bx by_ : Nat} {x : Int} {b : Bool} (hx : tmps.getD 6 undef = .pointer (some ⟨bx, 0, none⟩)) (hy : tmps.getD 7 undef = .pointer (some ⟨by_, 0, none⟩)) (h1 : w.heap[bx]? = some (boxI x)) (h2 : w.heap[by_]? = some (boxB b))
    (hR : R (.returned (.tuple #[.int .i64 x, .bool b])) w) : LeavesInM Fence.wide 0 Tryd.prog Tryd.f22 tmps R [] .returning w := ⟨_, results_A hx hy h1 h2, hR⟩
theorem ends_markA {tmps : Array Value} {w : World} {D : Nat} {R : Ending → World → Prop} {bx by_ : Nat} {x : Int} {b : Bool} (hx : tmps.getD 6 undef = .pointer (some ⟨bx, 0, none⟩)) (hy : tmps.getD 7 undef = .pointer (some ⟨by_, 0, none⟩)) (h1 : w.heap[bx]? = some (boxI x)) (h2 : w.heap[by_]? = some (boxB b))
    (hd : w.heap[D]? = some (.deferred (some []))) (hR : R (.returned (.tuple #[.int .i64 x, .bool b])) (w.putObj D (.deferred none))) : LeavesInM Fence.wide 0 Tryd.prog Tryd.f22 tmps R [{ target := .collected D, args := #[] }] .returning w := by
  have e1 : bx ≠ D := ne_obj h1 hd (by intro e; cases e)
  have e2 : by_ ≠ D := ne_obj h2 hd (by intro e; cases e)
  refine ⟨by simp, .inl ⟨_, _, rfl, run_takeDeferred hd, ?_⟩⟩
  exact ⟨_, results_A hx hy (ho_other h1 e1) (ho_other h2 e2), hR⟩
set_option maxRecDepth 100000
set_option maxHeartbeats 4000000 in
theorem at_any (A : Option Addr) (c : Nat) (rows : List Row) (n : Nat) (hn : rows.length = n) (row col : Int) (w : World) (hC : Kd.C k39 w A n rows) :
    CallsIn Fence.wide 0 Tryd.prog 22 #[.slice A n c, .int .i64 row, .int .i64 col] w fun e w' => e = .returned (.tuple #[.int .i64 (atP rows row col).1, .bool (atP rows row col).2]) ∧ Fr Non w w' := by
  have hnb : n ≤ 9223372036854775807 := hC.2.1
  obtain ⟨r, hr⟩ : ∃ r, atP rows row col = r := ⟨_, rfl⟩
  rw [hr]
  have HR := Lib.hid hr
  have HC := Lib.hid hC
  have HN := Lib.hid hn
  clear hr hC hn
  refine callsIn_of_wp_marks Tryd.func22 rfl trivial ?_ rfl
  simp only [Tryd.ntmps22, List.size_toArray, List.length_cons, List.length_nil, Nat.reduceAdd, Nat.reduceSub, Array.replicate_succ, Array.replicate_zero, List.push_toArray, List.append_toArray, List.nil_append, List.cons_append]
  by_cases h1 : row < 0
  · have hr : r = (0, false) := by rw [← HR.out]; unfold atP; rw [if_pos (.inl h1)]
    clear HR
    subst hr
    gi_wp2_with (with_reducible refine wpListIn_pass (by kernel_rfl) (by kernel_rfl) (by kernel_rfl) ?_)
    exact ends_A (bx := w.heap.size) (by_ := w.heap.size + 1) rfl rfl (two_at _ _ _) (two_at' _ _ _) ⟨rfl, ((Fr.refl _ _).alloc _).alloc _⟩
  · by_cases h2 : (n : Int) ≤ row
    · have hr : r = (0, false) := by rw [← HR.out]; unfold atP; rw [HN.out, if_pos (.inr h2)]
      clear HR
      subst hr
      gi_wp2_with (with_reducible refine wpListIn_unguard (by kernel_rfl) ?_)
      exact ends_A (bx := w.heap.size) (by_ := w.heap.size + 1) rfl rfl (two_at _ _ _) (two_at' _ _ _) ⟨rfl, ((Fr.refl _ _).alloc _).alloc _⟩
    · obtain ⟨k, rfl⟩ : ∃ k : Nat, row = k := ⟨row.toNat, by omega⟩
      have hkn : k < n := by omega
      have hrp : r = colP (rd_T39 rows (k : Int)).f1 col := by rw [← HR.out]; unfold atP; rw [HN.out, if_neg (by omega)]
      have hb2 : Below w.heap.size w ((w.alloc (.cells #[.int .i64 0] 3)).alloc (.cells #[.bool false] 4)) := below_alloc (below_alloc (Below.refl _ w) _) _
      obtain ⟨ad, A0, c0, A1, c1, rfl, x0, x1, x2, x3, x4, -, -, -, g1⟩ := at_T39 HC.out (k : Int) (by omega) (by omega)
      obtain ⟨p, hp⟩ : ∃ p, (rd_T39 rows (k : Int)).f1 = p := ⟨_, rfl⟩
      rw [hp, Int.toNat_natCast] at x1
      rw [hp] at g1 hrp
      obtain ⟨m, hm⟩ : ∃ m, p.length = m := ⟨_, rfl⟩
      rw [hm] at x1 g1
      replace x1 := cell_later hb2 x1
      have HM := Lib.hid hm
      have HRP := Lib.hid hrp
      have G1 := Lib.hid g1
      have HB2 := Lib.hid hb2
      have hmb : m ≤ 9223372036854775807 := g1.2.1
      clear HR hp hm hrp g1 x0 x2 x3 x4 hb2
      have hk1 : (0 : Int) ≤ (k : Int) := by omega
      have hk2 : (k : Int) < (n : Int) := by omega
      have h1' : decide ((k : Int) < 0) = false := by simp
      by_cases h3 : col < 0
      · have hrl : r = lastP p := by rw [HRP.out]; unfold colP; rw [if_neg (by omega)]
        have HRL := Lib.hid hrl
        clear hrl HRP
        gi_wp2_with (first | (((with_reducible refine wpListIn_unguard ?_ ?_); (focus rfl))) | (((with_reducible refine wpListIn_pass ?_ (by kernel_rfl) (by kernel_rfl) ?_); (focus rfl))))
        refine ⟨trivial, rfl, (callsIn_wide.2 (back_make A1 m c1 _)).mono ?_⟩
        rintro e w4 ⟨rfl, hw4⟩
        have HW4 := Lib.hid hw4
        clear hw4
        gi_wp2_with fail
        have hw4 := HW4.out
        have s4 : w4.heap.size = w.heap.size + 3 := by rw [hw4]; simp
        have f4 : Fr Non w w4 := by rw [hw4]; exact (((Fr.refl _ _).alloc _).alloc _).alloc _
        have bx4 : w4.heap[w.heap.size]? = some (boxI 0) := by rw [hw4]; exact hd_alloc (two_at _ _ _)
        have by4 : w4.heap[w.heap.size + 1]? = some (boxB false) := by rw [hw4]; exact hd_alloc (two_at' _ _ _)
        have al : ∀ (W : World) (o : Obj) (n : Nat), W.heap.size = n → (W.alloc o).heap[n]? = some o := fun W o n h => by rw [← h]; exact World.alloc_heap_new W o
        have bl4 : w4.heap[w.heap.size + 2]? = some (.cells #[.slice A1 m c1] 37 (0, 0)) := by rw [hw4]; exact al _ _ _ (by simp)
        clear hw4
        refine range_law (gf := 62) (lb := #[.pointer (some ⟨w.heap.size + 2, 0, none⟩)]) rfl (enters_of Tryd.func62 (by kernel_rfl) rfl) ?_
        intro fn
        rw [s4]
        generalize hr : Rec.mk fn _ _ _ _ _ = r'
        generalize hW6 : (w4.alloc (.deferred (some []))).alloc (r'.at .ready none) = W6
        have s6 : W6.heap.size = w.heap.size + 5 := by rw [← hW6]; simp [s4]
        have f6 : Fr Non w4 W6 := by rw [← hW6]; exact ((Fr.refl _ _).alloc _).alloc _
        have bD6 : W6.heap[w.heap.size + 3]? = some (.deferred (some [])) := by rw [← hW6]; exact hd_alloc (al _ _ _ s4)
        have b6 : W6.heap[w.heap.size + 4]? = some (r'.at .ready none) := by rw [← hW6]; exact al _ _ _ (by simp [s4])
        clear hW6
        have fw6 : Fr Non w W6 := f4.trans f6
        have st : StA r' (w.heap.size + 4) w.heap.size (w.heap.size + 1) .ready none 0 false W6 := ⟨b6, f6.at bx4 id, f6.at by4 id⟩
        have hps : r'.params.size = 2 := by rw [← hr]; rfl
        have hround : ∀ (i x : Int) (W : World), StA r' (w.heap.size + 4) w.heap.size (w.heap.size + 1) .ready none 0 false W → _ :=
          fun i x W st => roundA fn (w.heap.size + 4) (w.heap.size + 3) w.heap.size (w.heap.size + 1) i x W r' hr st
        clear hr
        have hc := back_iter (consA r' (w.heap.size + 4) w.heap.size (w.heap.size + 1) w.heap.size 0 (backs p) hps (Nat.le_refl _) (by omega) (by omega) hround) (fun _ _ _ => rfl)
          (w.heap.size + 2) A1 c1 m p HM.out rfl w W6 _ ⟨rfl, st, fun _ h => by simp at h⟩ (by rintro (h | h | h) <;> omega) (f6.at bl4 id) G1.out fw6.toBelow rfl
        refine (callsIn_wide.1 hc).mono ?_
        rintro e W7 ⟨hv, O', ⟨hF, hO'⟩, hJD⟩
        refine ⟨hv, ?_⟩
        have hO0 : ∀ b, OA (w.heap.size + 4) w.heap.size (w.heap.size + 1) b → w.heap.size ≤ b := by rintro b (h | h | h) <;> omega
        have bD7 := hF.at bD6 (by rintro (h | h | h) <;> omega)
        have fw7 : Fr Non w W7 := (fw6.mono (fun _ _ h => h)).then hF (fun b hb h => by have := hO0 b h; omega)
        rcases hJD with ⟨rfl, st7, hall⟩ | ⟨ys, hys, rfl, zs, z, rfl, st7, hall, hz⟩
        · refine .inl ⟨st7.lrec, ?_⟩
          have hr0 : r = (0, false) := by rw [HRL.out]; exact lastP_none hall
          have st8 : StA r' (w.heap.size + 4) w.heap.size (w.heap.size + 1) .exhausted none 0 false (W7.putObj (w.heap.size + 4) (r'.at .exhausted none)) := ⟨ho_same st7.lrec, ho_other st7.bx (by omega), ho_other st7.by_ (by omega)⟩
          have bD8 : (W7.putObj (w.heap.size + 4) (r'.at .exhausted none)).heap[w.heap.size + 3]? = some (.deferred (some [])) := ho_other bD7 (by omega)
          have f8 : Fr Non w (W7.putObj (w.heap.size + 4) (r'.at .exhausted none)) := fw7.putObj _ _ (fun h => by omega)
          generalize hW8 : W7.putObj (w.heap.size + 4) (r'.at .exhausted none) = W8
          rw [hW8] at st8 bD8 f8
          have q1 : W8.cell? ⟨w.heap.size, 0, none⟩ = some (.int .i64 0) := cell_row st8.bx rfl
          have q2 : W8.cell? ⟨w.heap.size + 1, 0, none⟩ = some (.bool false) := cell_row st8.by_ rfl
          have q3 : W8.frozen? ⟨w.heap.size, 0, none⟩ = false := free_row st8.bx
          have q4 : W8.frozen? ⟨w.heap.size + 1, 0, none⟩ = false := free_row st8.by_
          have HST8 := Lib.hid st8
          have HD8 := Lib.hid bD8
          have HF8 := Lib.hid f8
          clear hW8 hc hall st7 bD7 fw7 hF hround st st8 bD8 f8 hO' HRL
          subst hr0
          gi_wp2
          refine ends_markA (bx := w.heap.size) (by_ := w.heap.size + 1) (D := w.heap.size + 3) (x := 0) (b := false) rfl rfl ?_ ?_ ?_ ?_
          · exact hs_other (hs_same HST8.out.bx) (by omega)
          · exact hs_same (hs_other HST8.out.by_ (by omega))
          · exact hs_other (hs_other HD8.out (by omega)) (by omega)
          · exact ⟨rfl, ((HF8.out.setCell _ _ (fun h => by simp at h)).setCell _ _ (fun h => by simp at h; omega)).putObj _ _ (fun h => by omega)⟩
        · refine .inr ⟨_, st7.lrec, ?_⟩
          have hr0 : r = (z.2, true) := by rw [HRL.out]; exact lastP_some hys hall hz
          have st8 : StA r' (w.heap.size + 4) w.heap.size (w.heap.size + 1) .exhausted (some .ret) z.2 true (W7.putObj (w.heap.size + 4) (r'.at .exhausted (some .ret))) := ⟨ho_same st7.lrec, ho_other st7.bx (by omega), ho_other st7.by_ (by omega)⟩
          have bD8 : (W7.putObj (w.heap.size + 4) (r'.at .exhausted (some .ret))).heap[w.heap.size + 3]? = some (.deferred (some [])) := ho_other bD7 (by omega)
          have f8 : Fr Non w (W7.putObj (w.heap.size + 4) (r'.at .exhausted (some .ret))) := fw7.putObj _ _ (fun h => by omega)
          generalize hW8 : W7.putObj (w.heap.size + 4) (r'.at .exhausted (some .ret)) = W8
          rw [hW8] at st8 bD8 f8
          have HST8 := Lib.hid st8
          have HD8 := Lib.hid bD8
          have HF8 := Lib.hid f8
          have HR0 := Lib.hid hr0
          clear hW8 hc hall st7 bD7 fw7 hF hround st st8 bD8 f8 hO' HRL hys hz hr0
          gi_wp2
          refine ends_markA (bx := w.heap.size) (by_ := w.heap.size + 1) (D := w.heap.size + 3) rfl rfl HST8.out.bx HST8.out.by_ HD8.out ?_
          exact ⟨by rw [HR0.out], HF8.out.putObj _ _ (fun h => by omega)⟩
      · obtain ⟨j, rfl⟩ : ∃ j : Nat, col = j := ⟨col.toNat, by omega⟩
        have hj0 : (0 : Int) ≤ (j : Int) := by omega
        by_cases h4 : m ≤ j
        · have h4' : ¬ j < m := by omega
          have hrl : r = lastP p := by rw [HRP.out]; unfold colP; rw [HM.out, if_neg (by omega)]
          have HRL := Lib.hid hrl
          clear hrl HRP h4
          gi_wp2_with (first | (((with_reducible refine wpListIn_unguard ?_ ?_); (focus rfl))) | (((with_reducible refine wpListIn_pass ?_ (by kernel_rfl) (by kernel_rfl) ?_); (focus rfl))))
          refine ⟨trivial, rfl, (callsIn_wide.2 (back_make A1 m c1 _)).mono ?_⟩
          rintro e w4 ⟨rfl, hw4⟩
          have HW4 := Lib.hid hw4
          clear hw4
          gi_wp2_with fail
          have hw4 := HW4.out
          have s4 : w4.heap.size = w.heap.size + 3 := by rw [hw4]; simp
          have f4 : Fr Non w w4 := by rw [hw4]; exact (((Fr.refl _ _).alloc _).alloc _).alloc _
          have bx4 : w4.heap[w.heap.size]? = some (boxI 0) := by rw [hw4]; exact hd_alloc (two_at _ _ _)
          have by4 : w4.heap[w.heap.size + 1]? = some (boxB false) := by rw [hw4]; exact hd_alloc (two_at' _ _ _)
          have al : ∀ (W : World) (o : Obj) (n : Nat), W.heap.size = n → (W.alloc o).heap[n]? = some o := fun W o n h => by rw [← h]; exact World.alloc_heap_new W o
          have bl4 : w4.heap[w.heap.size + 2]? = some (.cells #[.slice A1 m c1] 37 (0, 0)) := by rw [hw4]; exact al _ _ _ (by simp)
          clear hw4
          refine range_law (gf := 62) (lb := #[.pointer (some ⟨w.heap.size + 2, 0, none⟩)]) rfl (enters_of Tryd.func62 (by kernel_rfl) rfl) ?_
          intro fn
          rw [s4]
          generalize hr : Rec.mk fn _ _ _ _ _ = r'
          generalize hW6 : (w4.alloc (.deferred (some []))).alloc (r'.at .ready none) = W6
          have s6 : W6.heap.size = w.heap.size + 5 := by rw [← hW6]; simp [s4]
          have f6 : Fr Non w4 W6 := by rw [← hW6]; exact ((Fr.refl _ _).alloc _).alloc _
          have bD6 : W6.heap[w.heap.size + 3]? = some (.deferred (some [])) := by rw [← hW6]; exact hd_alloc (al _ _ _ s4)
          have b6 : W6.heap[w.heap.size + 4]? = some (r'.at .ready none) := by rw [← hW6]; exact al _ _ _ (by simp [s4])
          clear hW6
          have fw6 : Fr Non w W6 := f4.trans f6
          have st : StA r' (w.heap.size + 4) w.heap.size (w.heap.size + 1) .ready none 0 false W6 := ⟨b6, f6.at bx4 id, f6.at by4 id⟩
          have hps : r'.params.size = 2 := by rw [← hr]; rfl
          have hround : ∀ (i x : Int) (W : World), StA r' (w.heap.size + 4) w.heap.size (w.heap.size + 1) .ready none 0 false W → _ :=
            fun i x W st => roundA fn (w.heap.size + 4) (w.heap.size + 3) w.heap.size (w.heap.size + 1) i x W r' hr st
          clear hr
          have hc := back_iter (consA r' (w.heap.size + 4) w.heap.size (w.heap.size + 1) w.heap.size 0 (backs p) hps (Nat.le_refl _) (by omega) (by omega) hround) (fun _ _ _ => rfl)
            (w.heap.size + 2) A1 c1 m p HM.out rfl w W6 _ ⟨rfl, st, fun _ h => by simp at h⟩ (by rintro (h | h | h) <;> omega) (f6.at bl4 id) G1.out fw6.toBelow rfl
          refine (callsIn_wide.1 hc).mono ?_
          rintro e W7 ⟨hv, O', ⟨hF, hO'⟩, hJD⟩
          refine ⟨hv, ?_⟩
          have hO0 : ∀ b, OA (w.heap.size + 4) w.heap.size (w.heap.size + 1) b → w.heap.size ≤ b := by rintro b (h | h | h) <;> omega
          have bD7 := hF.at bD6 (by rintro (h | h | h) <;> omega)
          have fw7 : Fr Non w W7 := (fw6.mono (fun _ _ h => h)).then hF (fun b hb h => by have := hO0 b h; omega)
          rcases hJD with ⟨rfl, st7, hall⟩ | ⟨ys, hys, rfl, zs, z, rfl, st7, hall, hz⟩
          · refine .inl ⟨st7.lrec, ?_⟩
            have hr0 : r = (0, false) := by rw [HRL.out]; exact lastP_none hall
            have st8 : StA r' (w.heap.size + 4) w.heap.size (w.heap.size + 1) .exhausted none 0 false (W7.putObj (w.heap.size + 4) (r'.at .exhausted none)) := ⟨ho_same st7.lrec, ho_other st7.bx (by omega), ho_other st7.by_ (by omega)⟩
            have bD8 : (W7.putObj (w.heap.size + 4) (r'.at .exhausted none)).heap[w.heap.size + 3]? = some (.deferred (some [])) := ho_other bD7 (by omega)
            have f8 : Fr Non w (W7.putObj (w.heap.size + 4) (r'.at .exhausted none)) := fw7.putObj _ _ (fun h => by omega)
            generalize hW8 : W7.putObj (w.heap.size + 4) (r'.at .exhausted none) = W8
            rw [hW8] at st8 bD8 f8
            have q1 : W8.cell? ⟨w.heap.size, 0, none⟩ = some (.int .i64 0) := cell_row st8.bx rfl
            have q2 : W8.cell? ⟨w.heap.size + 1, 0, none⟩ = some (.bool false) := cell_row st8.by_ rfl
            have q3 : W8.frozen? ⟨w.heap.size, 0, none⟩ = false := free_row st8.bx
            have q4 : W8.frozen? ⟨w.heap.size + 1, 0, none⟩ = false := free_row st8.by_
            have HST8 := Lib.hid st8
            have HD8 := Lib.hid bD8
            have HF8 := Lib.hid f8
            clear hW8 hc hall st7 bD7 fw7 hF hround st st8 bD8 f8 hO' HRL
            subst hr0
            gi_wp2
            refine ends_markA (bx := w.heap.size) (by_ := w.heap.size + 1) (D := w.heap.size + 3) (x := 0) (b := false) rfl rfl ?_ ?_ ?_ ?_
            · exact hs_other (hs_same HST8.out.bx) (by omega)
            · exact hs_same (hs_other HST8.out.by_ (by omega))
            · exact hs_other (hs_other HD8.out (by omega)) (by omega)
            · exact ⟨rfl, ((HF8.out.setCell _ _ (fun h => by simp at h)).setCell _ _ (fun h => by simp at h; omega)).putObj _ _ (fun h => by omega)⟩
          · refine .inr ⟨_, st7.lrec, ?_⟩
            have hr0 : r = (z.2, true) := by rw [HRL.out]; exact lastP_some hys hall hz
            have st8 : StA r' (w.heap.size + 4) w.heap.size (w.heap.size + 1) .exhausted (some .ret) z.2 true (W7.putObj (w.heap.size + 4) (r'.at .exhausted (some .ret))) := ⟨ho_same st7.lrec, ho_other st7.bx (by omega), ho_other st7.by_ (by omega)⟩
            have bD8 : (W7.putObj (w.heap.size + 4) (r'.at .exhausted (some .ret))).heap[w.heap.size + 3]? = some (.deferred (some [])) := ho_other bD7 (by omega)
            have f8 : Fr Non w (W7.putObj (w.heap.size + 4) (r'.at .exhausted (some .ret))) := fw7.putObj _ _ (fun h => by omega)
            generalize hW8 : W7.putObj (w.heap.size + 4) (r'.at .exhausted (some .ret)) = W8
            rw [hW8] at st8 bD8 f8
            have HST8 := Lib.hid st8
            have HD8 := Lib.hid bD8
            have HF8 := Lib.hid f8
            have HR0 := Lib.hid hr0
            clear hW8 hc hall st7 bD7 fw7 hF hround st st8 bD8 f8 hO' HRL hys hz hr0
            gi_wp2
            refine ends_markA (bx := w.heap.size) (by_ := w.heap.size + 1) (D := w.heap.size + 3) rfl rfl HST8.out.bx HST8.out.by_ HD8.out ?_
            exact ⟨by rw [HR0.out], HF8.out.putObj _ _ (fun h => by omega)⟩
        · have h4' : j < m := by omega
          have hji : (j : Int) < (m : Int) := by omega
          obtain ⟨ap, rfl, hy⟩ := at_int G1.out j h4'
          replace hy := cell_later HB2.out hy
          obtain ⟨x, hx⟩ : ∃ x, p.getD j 0 = x := ⟨_, rfl⟩
          rw [hx] at hy
          have HX := Lib.hid hx
          clear hx h4
          by_cases h5 : x = -1
          · have hrl : r = lastP p := by rw [HRP.out]; unfold colP; rw [Int.toNat_natCast, HX.out, if_neg (by omega)]
            have h5b : (x != -1) = false := by simp [h5]
            have HRL := Lib.hid hrl
            clear hrl HRP h5
            gi_wp2_with (first | (((with_reducible refine wpListIn_unguard ?_ ?_); (focus rfl))) | (((with_reducible refine wpListIn_pass ?_ (by kernel_rfl) (by kernel_rfl) ?_); (focus rfl))))
            refine ⟨trivial, rfl, (callsIn_wide.2 (back_make (some ap) m c1 _)).mono ?_⟩
            rintro e w4 ⟨rfl, hw4⟩
            have HW4 := Lib.hid hw4
            clear hw4
            gi_wp2_with fail
            have hw4 := HW4.out
            have s4 : w4.heap.size = w.heap.size + 3 := by rw [hw4]; simp
            have f4 : Fr Non w w4 := by rw [hw4]; exact (((Fr.refl _ _).alloc _).alloc _).alloc _
            have bx4 : w4.heap[w.heap.size]? = some (boxI 0) := by rw [hw4]; exact hd_alloc (two_at _ _ _)
            have by4 : w4.heap[w.heap.size + 1]? = some (boxB false) := by rw [hw4]; exact hd_alloc (two_at' _ _ _)
            have al : ∀ (W : World) (o : Obj) (n : Nat), W.heap.size = n → (W.alloc o).heap[n]? = some o := fun W o n h => by rw [← h]; exact World.alloc_heap_new W o
            have bl4 : w4.heap[w.heap.size + 2]? = some (.cells #[.slice (some ap) m c1] 37 (0, 0)) := by rw [hw4]; exact al _ _ _ (by simp)
            clear hw4
            refine range_law (gf := 62) (lb := #[.pointer (some ⟨w.heap.size + 2, 0, none⟩)]) rfl (enters_of Tryd.func62 (by kernel_rfl) rfl) ?_
            intro fn
            rw [s4]
            generalize hr : Rec.mk fn _ _ _ _ _ = r'
            generalize hW6 : (w4.alloc (.deferred (some []))).alloc (r'.at .ready none) = W6
            have s6 : W6.heap.size = w.heap.size + 5 := by rw [← hW6]; simp [s4]
            have f6 : Fr Non w4 W6 := by rw [← hW6]; exact ((Fr.refl _ _).alloc _).alloc _
            have bD6 : W6.heap[w.heap.size + 3]? = some (.deferred (some [])) := by rw [← hW6]; exact hd_alloc (al _ _ _ s4)
            have b6 : W6.heap[w.heap.size + 4]? = some (r'.at .ready none) := by rw [← hW6]; exact al _ _ _ (by simp [s4])
            clear hW6
            have fw6 : Fr Non w W6 := f4.trans f6
            have st : StA r' (w.heap.size + 4) w.heap.size (w.heap.size + 1) .ready none 0 false W6 := ⟨b6, f6.at bx4 id, f6.at by4 id⟩
            have hps : r'.params.size = 2 := by rw [← hr]; rfl
            have hround : ∀ (i x : Int) (W : World), StA r' (w.heap.size + 4) w.heap.size (w.heap.size + 1) .ready none 0 false W → _ :=
              fun i x W st => roundA fn (w.heap.size + 4) (w.heap.size + 3) w.heap.size (w.heap.size + 1) i x W r' hr st
            clear hr
            have hc := back_iter (consA r' (w.heap.size + 4) w.heap.size (w.heap.size + 1) w.heap.size 0 (backs p) hps (Nat.le_refl _) (by omega) (by omega) hround) (fun _ _ _ => rfl)
              (w.heap.size + 2) (some ap) c1 m p HM.out rfl w W6 _ ⟨rfl, st, fun _ h => by simp at h⟩ (by rintro (h | h | h) <;> omega) (f6.at bl4 id) G1.out fw6.toBelow rfl
            refine (callsIn_wide.1 hc).mono ?_
            rintro e W7 ⟨hv, O', ⟨hF, hO'⟩, hJD⟩
            refine ⟨hv, ?_⟩
            have hO0 : ∀ b, OA (w.heap.size + 4) w.heap.size (w.heap.size + 1) b → w.heap.size ≤ b := by rintro b (h | h | h) <;> omega
            have bD7 := hF.at bD6 (by rintro (h | h | h) <;> omega)
            have fw7 : Fr Non w W7 := (fw6.mono (fun _ _ h => h)).then hF (fun b hb h => by have := hO0 b h; omega)
            rcases hJD with ⟨rfl, st7, hall⟩ | ⟨ys, hys, rfl, zs, z, rfl, st7, hall, hz⟩
            · refine .inl ⟨st7.lrec, ?_⟩
              have hr0 : r = (0, false) := by rw [HRL.out]; exact lastP_none hall
              have st8 : StA r' (w.heap.size + 4) w.heap.size (w.heap.size + 1) .exhausted none 0 false (W7.putObj (w.heap.size + 4) (r'.at .exhausted none)) := ⟨ho_same st7.lrec, ho_other st7.bx (by omega), ho_other st7.by_ (by omega)⟩
              have bD8 : (W7.putObj (w.heap.size + 4) (r'.at .exhausted none)).heap[w.heap.size + 3]? = some (.deferred (some [])) := ho_other bD7 (by omega)
              have f8 : Fr Non w (W7.putObj (w.heap.size + 4) (r'.at .exhausted none)) := fw7.putObj _ _ (fun h => by omega)
              generalize hW8 : W7.putObj (w.heap.size + 4) (r'.at .exhausted none) = W8
              rw [hW8] at st8 bD8 f8
              have q1 : W8.cell? ⟨w.heap.size, 0, none⟩ = some (.int .i64 0) := cell_row st8.bx rfl
              have q2 : W8.cell? ⟨w.heap.size + 1, 0, none⟩ = some (.bool false) := cell_row st8.by_ rfl
              have q3 : W8.frozen? ⟨w.heap.size, 0, none⟩ = false := free_row st8.bx
              have q4 : W8.frozen? ⟨w.heap.size + 1, 0, none⟩ = false := free_row st8.by_
              have HST8 := Lib.hid st8
              have HD8 := Lib.hid bD8
              have HF8 := Lib.hid f8
              clear hW8 hc hall st7 bD7 fw7 hF hround st st8 bD8 f8 hO' HRL
              subst hr0
              gi_wp2
              refine ends_markA (bx := w.heap.size) (by_ := w.heap.size + 1) (D := w.heap.size + 3) (x := 0) (b := false) rfl rfl ?_ ?_ ?_ ?_
              · exact hs_other (hs_same HST8.out.bx) (by omega)
              · exact hs_same (hs_other HST8.out.by_ (by omega))
              · exact hs_other (hs_other HD8.out (by omega)) (by omega)
              · exact ⟨rfl, ((HF8.out.setCell _ _ (fun h => by simp at h)).setCell _ _ (fun h => by simp at h; omega)).putObj _ _ (fun h => by omega)⟩
            · refine .inr ⟨_, st7.lrec, ?_⟩
              have hr0 : r = (z.2, true) := by rw [HRL.out]; exact lastP_some hys hall hz
              have st8 : StA r' (w.heap.size + 4) w.heap.size (w.heap.size + 1) .exhausted (some .ret) z.2 true (W7.putObj (w.heap.size + 4) (r'.at .exhausted (some .ret))) := ⟨ho_same st7.lrec, ho_other st7.bx (by omega), ho_other st7.by_ (by omega)⟩
              have bD8 : (W7.putObj (w.heap.size + 4) (r'.at .exhausted (some .ret))).heap[w.heap.size + 3]? = some (.deferred (some [])) := ho_other bD7 (by omega)
              have f8 : Fr Non w (W7.putObj (w.heap.size + 4) (r'.at .exhausted (some .ret))) := fw7.putObj _ _ (fun h => by omega)
              generalize hW8 : W7.putObj (w.heap.size + 4) (r'.at .exhausted (some .ret)) = W8
              rw [hW8] at st8 bD8 f8
              have HST8 := Lib.hid st8
              have HD8 := Lib.hid bD8
              have HF8 := Lib.hid f8
              have HR0 := Lib.hid hr0
              clear hW8 hc hall st7 bD7 fw7 hF hround st st8 bD8 f8 hO' HRL hys hz hr0
              gi_wp2
              refine ends_markA (bx := w.heap.size) (by_ := w.heap.size + 1) (D := w.heap.size + 3) rfl rfl HST8.out.bx HST8.out.by_ HD8.out ?_
              exact ⟨by rw [HR0.out], HF8.out.putObj _ _ (fun h => by omega)⟩
          · have hrl : r = (x, true) := by rw [HRP.out]; unfold colP; rw [HM.out, Int.toNat_natCast, HX.out, if_pos ⟨hj0, hji, h5⟩]
            have h5b : (x != -1) = true := by simp [h5]
            clear HRP h5
            subst hrl
            gi_wp2_with (first | (((with_reducible refine wpListIn_unguard ?_ ?_); (focus rfl))) | (((with_reducible refine wpListIn_pass ?_ (by kernel_rfl) (by kernel_rfl) ?_); (focus rfl))))
            exact ends_A (bx := w.heap.size) (by_ := w.heap.size + 1) rfl rfl (two_at _ _ _) (two_at' _ _ _) ⟨rfl, ((Fr.refl _ _).alloc _).alloc _⟩
end Go.Proofs.YtppjgofjjcdcdaaDoor

/- layout.Where. -/
namespace Go.Proofs.YtppjgofjjcdcdaaDoor
open PLayoutRows
open Go.RowKit Go.Proofs.YtppjgofjjcdcdaaDoorW.PrintWords
theorem scan_step (p : Int → Bool) (rows : List Row) (k : Nat) (h : k < rows.length) : scanP p (rows.drop k) (k : Int) = if 0 ≤ idxP p (rd_T39 rows (k : Int)).f1 then some ((k : Int), idxP p (rd_T39 rows (k : Int)).f1) else scanP p (rows.drop (k + 1)) ((k + 1 : Nat) : Int) := by
  rw [List.drop_eq_getElem_cons h]
  simp only [scanP]
  simp [rd_T39, h]
/-- How far the outer loop has come. -/
structure WhS (rows : List Row) (pos : Int) (w0 : World) (k : Nat) (wr : World) : Prop where
  le : k ≤ 2
  no : 0 < k → scanP (isP false pos) rows 0 = none
  no2 : 1 < k → scanP (isP true pos) rows 0 = none
  bel : Below w0.heap.size w0 wr
structure WiS (p : Int → Bool) (rows : List Row) (n : Nat) (sc : Option (Int × Int)) (w0 : World) (k : Nat) (wr : World) : Prop where
  le : k ≤ n
  sc : scanP p (rows.drop k) (k : Int) = sc
  bel : Below w0.heap.size w0 wr
set_option maxRecDepth 100000 in
set_option maxHeartbeats 3200000 in
theorem where_any (A : Option Addr) (c : Nat) (rows : List Row) (n : Nat) (hn : rows.length = n) (pos : Int) (w : World) (hC : Kd.C k39 w A n rows) :
    Calls Tryd.prog 20 #[.slice A n c, .int .i64 pos] w fun e w' => e = .returned (.tuple #[.int .i64 (whereP rows pos).1, .int .i64 (whereP rows pos).2.1, .bool (whereP rows pos).2.2]) ∧ Below w.heap.size w w' := by
  have hnb : n ≤ 9223372036854775807 := hC.2.1
  obtain ⟨r, hr⟩ : ∃ r, whereP rows pos = r := ⟨_, rfl⟩
  rw [hr]
  have HR := Lib.hid hr
  have HC := Lib.hid hC
  have HN := Lib.hid hn
  clear hr hC hn
  have i0 : ∀ (x y : Value) (w : World), (Instr.index 80 (.agg #[x, y]) (.int .i64 0)).run Tryd.prog w = .ok x w := fun _ _ _ => by kernel_rfl
  have i1 : ∀ (x y : Value) (w : World), (Instr.index 80 (.agg #[x, y]) (.int .i64 1)).run Tryd.prog w = .ok y w := fun _ _ _ => by kernel_rfl
  have hmf : ∀ (fn : Fn) (first cap : Array Value) (w : World), (Instr.makeFunc fn first cap).run Tryd.prog w = .ok (.func fn first cap) w := fun _ _ _ _ => rfl
  go_enter Tryd.func20, Tryd.ntmps20
  go_wp2
  generalize hW0 : w.alloc (.cells #[.int .i64 pos] 3) = w0
  have hp0 : w0.cell? ⟨w.heap.size, 0, none⟩ = some (.int .i64 pos) := by rw [← hW0]; exact cell_row (World.alloc_heap_new w _) rfl
  have hb0 : Below w.heap.size w w0 := by rw [← hW0]; exact below_alloc (Below.refl _ _) _
  have HP0 := Lib.hid hp0
  have HB0 := Lib.hid hb0
  clear hW0 hp0 hb0
  obtain ⟨pb, hpb⟩ : ∃ pb, w.heap.size = pb := ⟨_, rfl⟩
  rw [hpb] at HP0 ⊢
  have HPB := Lib.hid hpb
  clear hpb
  go_loopw [15] (fun j wr => ∃ k : Nat, j = .int .i64 k ∧ WhS rows pos w0 k wr) (fun j _ => 2 - (intOf j).toNat)
  case atStart => exact ⟨0, rfl, by omega, fun h => absurd h (by omega), fun h => absurd h (by omega), Below.refl _ _⟩
  case round =>
    obtain ⟨k, rfl, hS⟩ := hrel
    have hk := hS.le
    have HS := Lib.hid hS
    clear hS
    have hk3 : k = 0 ∨ k = 1 ∨ k = 2 := by omega
    rcases hk3 with rfl | rfl | rfl
    · rw [show ((0 : Nat) : Int) = 0 from rfl]
      obtain ⟨wo, rfl⟩ : ∃ wo : World, wo = wr := ⟨_, rfl⟩
      go_wp2
      generalize hW1 : wo.alloc (.cells #[.func (.func 42) #[] #[.pointer (some ⟨pb, 0, none⟩)]] 79) = w1
      have hm1 : w1.cell? ⟨wo.heap.size, 0, none⟩ = some (.func (.func (fnOf false)) #[] #[.pointer (some ⟨pb, 0, none⟩)]) := by rw [← hW1]; exact cell_row (World.alloc_heap_new wo _) rfl
      have hb1 : Below w0.heap.size w0 w1 := by rw [← hW1]; exact below_alloc HS.out.bel _
      have HM1 := Lib.hid hm1
      have HB1 := Lib.hid hb1
      clear hW1 hm1 hb1
      obtain ⟨mb, hmb⟩ : ∃ mb, wo.heap.size = mb := ⟨_, rfl⟩
      rw [hmb] at HM1 ⊢
      clear hmb
      have HP1 := Lib.hid (cell_later HB1.out HP0.out)
      have HC1 := Lib.hid (Kd.C_below (Kd.C_below HC.out HB0.out) HB1.out)
      obtain ⟨p, hp⟩ : ∃ p, isP false pos = p := ⟨_, rfl⟩
      obtain ⟨sc, hsc⟩ : ∃ sc, scanP p rows 0 = sc := ⟨_, rfl⟩
      have HSC := Lib.hid hsc
      have HPP := Lib.hid hp
      clear hsc hp
      go_loopw [20] (fun i wi => ∃ q : Nat, i = .int .i64 q ∧ WiS p rows n sc w1 q wi) (fun i _ => n - (intOf i).toNat)
      case atStart => exact ⟨0, rfl, Nat.zero_le _, HSC.out, Below.refl _ _⟩
      case round =>
        obtain ⟨q, rfl, hI⟩ := hrel
        have hq := hI.le
        by_cases hlt : q < n
        · have hCi := Kd.C_below HC1.out hI.bel
          obtain ⟨ad, A0, c0, A1, c1, rfl, x0, x1, x2, x3, x4, -, -, -, g1⟩ := at_T39 hCi (q : Int) (by omega) (by omega)
          have hst := scan_step p rows q (by have := HN.out; omega)
          rw [hI.sc] at hst
          obtain ⟨rw_, hrw⟩ : ∃ rw_, rd_T39 rows (q : Int) = rw_ := ⟨_, rfl⟩
          rw [hrw, Int.toNat_natCast] at x0 x1 x2 x3 x4
          rw [hrw] at hst g1
          obtain ⟨x, hx⟩ : ∃ x, idxP p rw_.f1 = x := ⟨_, rfl⟩
          rw [hx] at hst
          have HIX := Lib.hid (fun (W : World) (h : Below wr.heap.size wr W) => index_any false mb pb pos A1 c1 rw_.f1 rw_.f1.length rfl W (Kd.C_below g1 h) (cell_later h (cell_later hI.bel HP1.out)) (cell_later h (cell_later hI.bel HM1.out)))
          simp only [HPP.out, hx] at HIX
          have HI := Lib.hid hI
          have HST := Lib.hid hst
          clear hCi hst hrw hx g1 hI
          by_cases hx0 : 0 ≤ x
          · have hst := HST.out
            rw [if_pos hx0] at hst
            have HSS := Lib.hid hst
            clear hst HST
            go_wp2_with (go_at_call 44; refine (HIX.out _ (below_alloc (Below.refl _ _) _)).mono ?_; rintro e w' ⟨rfl, rfl⟩)
            go_ret3
            have hr : r = ((q : Int), x, true) := by
              rw [← HR.out]
              unfold whereP
              rw [HPP.out, HSC.out, HSS.out]
            subst hr
            exact ⟨rfl, (HB0.out).trans (below_alloc (HB1.out.trans (HI.out.bel.mono HB1.out.size)) _ |>.mono (by have := HB0.out.size; omega))⟩
          · have hx1 : x < 0 := by omega
            have hst := HST.out
            rw [if_neg hx0] at hst
            have HSS := Lib.hid hst
            clear hst HST
            go_wp2_with (go_at_call 44; refine (HIX.out _ (below_alloc (Below.refl _ _) _)).mono ?_; rintro e w' ⟨rfl, rfl⟩)
            go_roundw
            case rel => exact ⟨q + 1, by go_num, by omega, HSS.out.symm, below_alloc HI.out.bel _⟩
            case measure => simp [intOf]; omega
        · have hqn : q = n := by omega
          have hsn : sc = none := by rw [← hI.sc, List.drop_of_length_le (by have := HN.out; omega)]; rfl
          have HSN := Lib.hid hsn
          have HI := Lib.hid hI
          clear hsn hI
          go_wp2
          go_roundw
          case rel => exact ⟨0 + 1, by go_num, by omega, fun _ => by rw [HPP.out, HSC.out, HSN.out], fun h => absurd h (by omega), HB1.out.trans (HI.out.bel.mono HB1.out.size)⟩
          case measure => simp [intOf]
    · rw [show ((1 : Nat) : Int) = 1 from rfl]
      obtain ⟨wo, rfl⟩ : ∃ wo : World, wo = wr := ⟨_, rfl⟩
      go_wp2
      generalize hW1 : wo.alloc (.cells #[.func (.func 43) #[] #[.pointer (some ⟨pb, 0, none⟩)]] 79) = w1
      have hm1 : w1.cell? ⟨wo.heap.size, 0, none⟩ = some (.func (.func (fnOf true)) #[] #[.pointer (some ⟨pb, 0, none⟩)]) := by rw [← hW1]; exact cell_row (World.alloc_heap_new wo _) rfl
      have hb1 : Below w0.heap.size w0 w1 := by rw [← hW1]; exact below_alloc HS.out.bel _
      have HM1 := Lib.hid hm1
      have HB1 := Lib.hid hb1
      clear hW1 hm1 hb1
      obtain ⟨mb, hmb⟩ : ∃ mb, wo.heap.size = mb := ⟨_, rfl⟩
      rw [hmb] at HM1 ⊢
      clear hmb
      have HP1 := Lib.hid (cell_later HB1.out HP0.out)
      have HC1 := Lib.hid (Kd.C_below (Kd.C_below HC.out HB0.out) HB1.out)
      obtain ⟨p, hp⟩ : ∃ p, isP true pos = p := ⟨_, rfl⟩
      obtain ⟨sc, hsc⟩ : ∃ sc, scanP p rows 0 = sc := ⟨_, rfl⟩
      have HSC := Lib.hid hsc
      have HPP := Lib.hid hp
      clear hsc hp
      go_loopw [20] (fun i wi => ∃ q : Nat, i = .int .i64 q ∧ WiS p rows n sc w1 q wi) (fun i _ => n - (intOf i).toNat)
      case atStart => exact ⟨0, rfl, Nat.zero_le _, HSC.out, Below.refl _ _⟩
      case round =>
        obtain ⟨q, rfl, hI⟩ := hrel
        have hq := hI.le
        by_cases hlt : q < n
        · have hCi := Kd.C_below HC1.out hI.bel
          obtain ⟨ad, A0, c0, A1, c1, rfl, x0, x1, x2, x3, x4, -, -, -, g1⟩ := at_T39 hCi (q : Int) (by omega) (by omega)
          have hst := scan_step p rows q (by have := HN.out; omega)
          rw [hI.sc] at hst
          obtain ⟨rw_, hrw⟩ : ∃ rw_, rd_T39 rows (q : Int) = rw_ := ⟨_, rfl⟩
          rw [hrw, Int.toNat_natCast] at x0 x1 x2 x3 x4
          rw [hrw] at hst g1
          obtain ⟨x, hx⟩ : ∃ x, idxP p rw_.f1 = x := ⟨_, rfl⟩
          rw [hx] at hst
          have HIX := Lib.hid (fun (W : World) (h : Below wr.heap.size wr W) => index_any true mb pb pos A1 c1 rw_.f1 rw_.f1.length rfl W (Kd.C_below g1 h) (cell_later h (cell_later hI.bel HP1.out)) (cell_later h (cell_later hI.bel HM1.out)))
          simp only [HPP.out, hx] at HIX
          have HI := Lib.hid hI
          have HST := Lib.hid hst
          clear hCi hst hrw hx g1 hI
          by_cases hx0 : 0 ≤ x
          · have hst := HST.out
            rw [if_pos hx0] at hst
            have HSS := Lib.hid hst
            clear hst HST
            go_wp2_with (go_at_call 44; refine (HIX.out _ (below_alloc (Below.refl _ _) _)).mono ?_; rintro e w' ⟨rfl, rfl⟩)
            go_ret3
            have hr : r = ((q : Int), x, true) := by
              rw [← HR.out]
              unfold whereP
              rw [HS.out.no (by omega)]
              simp only []
              rw [HPP.out, HSC.out, HSS.out]
            subst hr
            exact ⟨rfl, (HB0.out).trans (below_alloc (HB1.out.trans (HI.out.bel.mono HB1.out.size)) _ |>.mono (by have := HB0.out.size; omega))⟩
          · have hx1 : x < 0 := by omega
            have hst := HST.out
            rw [if_neg hx0] at hst
            have HSS := Lib.hid hst
            clear hst HST
            go_wp2_with (go_at_call 44; refine (HIX.out _ (below_alloc (Below.refl _ _) _)).mono ?_; rintro e w' ⟨rfl, rfl⟩)
            go_roundw
            case rel => exact ⟨q + 1, by go_num, by omega, HSS.out.symm, below_alloc HI.out.bel _⟩
            case measure => simp [intOf]; omega
        · have hqn : q = n := by omega
          have hsn : sc = none := by rw [← hI.sc, List.drop_of_length_le (by have := HN.out; omega)]; rfl
          have HSN := Lib.hid hsn
          have HI := Lib.hid hI
          clear hsn hI
          go_wp2
          go_roundw
          case rel => exact ⟨1 + 1, by go_num, by omega, fun _ => HS.out.no (by omega), fun _ => by rw [HPP.out, HSC.out, HSN.out], HB1.out.trans (HI.out.bel.mono HB1.out.size)⟩
          case measure => simp [intOf]
    · have hr : r = (0, 0, false) := by
        rw [← HR.out]
        unfold whereP
        rw [HS.out.no (by omega), HS.out.no2 (by omega)]
      clear HR
      subst hr
      go_wp2
      go_ret3
      exact ⟨rfl, HB0.out.trans (HS.out.bel.mono (by have := HB0.out.size; omega))⟩
end Go.Proofs.YtppjgofjjcdcdaaDoor

/- copyistlaw35.LayoutKnown: what it calls, at its own arguments. -/
namespace Go.Proofs.YtppjgofjjcdcdaaDoor
open PLayoutRows
open Go.RowKit Go.Proofs.YtppjgofjjcdcdaaDoorW.PrintWords
theorem where_lit (ad : Addr) (c n : Nat) (rows : List Row) (hn : rows.length = n) (pos row col : Int) (hw : whereP rows pos = (row, col, true)) (w : World) (hC : Kd.C k39 w (some ad) n rows) :
    Calls Tryd.prog 48 #[.slice (some ad) n c, .int .i64 pos, .int .i64 row, .int .i64 col] w fun e w' => e = .returned (.bool true) ∧ Below w.heap.size w w' := by
  have H := Lib.hid (where_any (some ad) c rows n hn pos w hC)
  rw [hw] at H
  clear hw hC hn
  go_enter Tryd.func48, Tryd.ntmps48
  go_wp2_with fail
  refine H.out.mono ?_
  rintro e w1 ⟨rfl, hb⟩
  have HB := Lib.hid hb
  clear hb H
  have e1 : (row == row) = true := by simp
  have e2 : (col == col) = true := by simp
  go_wp2_with (with_reducible refine wpList_unguard (by kernel_rfl) ?_)
  go_ret
  exact ⟨by simp, HB.out⟩
theorem at_lit (ad : Addr) (c n : Nat) (rows : List Row) (hn : rows.length = n) (row col x : Int) (b : Bool) (h : atP rows row col = (x, b)) (w : World) (hC : Kd.C k39 w (some ad) n rows) :
    Calls Tryd.prog 22 #[.slice (some ad) n c, .int .i64 row, .int .i64 col] w fun e w' => e = .returned (.tuple #[.int .i64 x, .bool b]) ∧ Below w.heap.size w w' := by
  refine (callsIn_wide.1 (at_any (some ad) c rows n hn row col w hC)).mono ?_
  rintro e w' ⟨he, hf⟩
  rw [h] at he
  exact ⟨he, hf.toBelow⟩
theorem find_lit (ad : Addr) (c n : Nat) (rows : List Row) (hn : rows.length = n) (pos x y : Int) (b : Bool) (h : whereP rows pos = (x, y, b)) (w : World) (hC : Kd.C k39 w (some ad) n rows) :
    Calls Tryd.prog 20 #[.slice (some ad) n c, .int .i64 pos] w fun e w' => e = .returned (.tuple #[.int .i64 x, .int .i64 y, .bool b]) ∧ Below w.heap.size w w' := by
  refine (where_any (some ad) c rows n hn pos w hC).mono ?_
  rintro e w' ⟨he, hf⟩
  rw [h] at he
  exact ⟨he, hf⟩
theorem check_lit {l : List Part} {n : Nat} (hn : l.length = n) (g cap : Nat) (from_ to_ r : Int) (h : checkP l from_ to_ = r) (hs : small l = true) (w : World) (hd : Kd.C k55 w (some ⟨g, 0, none⟩) n l) (hT : Tabs w) :
    Calls Tryd.prog 15 #[.slice (some ⟨g, 0, none⟩) n cap, .int .i64 from_, .int .i64 to_] w fun e w' => e = .returned (.int .i64 r) ∧ Below w.heap.size w w' := by
  subst hn
  refine (check_any (some ⟨g, 0, none⟩) cap l from_ to_ w hd hT (fun p hp => by have := small_of hs p hp; omega)).mono ?_
  rintro e w' ⟨he, hf⟩
  rw [h] at he
  exact ⟨he, hf.toBelow⟩
theorem rows_nil (w : World) (hT : Tabs w) : Calls Tryd.prog 12 #[.slice none 0 0, .int .i64 1, .int .i64 1, .int .i64 3, .int .i64 4, .bool true, .int .i64 9] w fun e w' => ∃ v, e = .returned (.tuple #[v, .int .i64 3]) ∧ Below w.heap.size w w' := by
  have hr : (rowsP [] 1 1 3 4 true 9).2 = 3 := by kernel_rfl
  refine (callsIn_wide.1 (rows_any none 0 [] 1 1 3 4 true 9 w ⟨rfl, by decide, fun h => absurd h (by decide)⟩ hT (by simp) (by simp))).mono ?_
  rintro e w' ⟨v, ds, he, _, _, hf⟩
  rw [hr] at he
  exact ⟨v, he, hf.toBelow⟩
def wnl : Part := ⟨0, 1, 3, ⟨#[97, 10]⟩, z53⟩
def wtab : Part := ⟨0, 1, 6, ⟨#[97, 9, 98, 1, 99]⟩, z53⟩
def rcut : List Row := (rowsP [wlong] 1 11 8 4 false 100).1
def rnl : List Row := (rowsP [wnl] 1 3 8 4 true 100).1
def rtab : List Row := (rowsP [wtab] 1 6 8 4 true 100).1
def pTab0 : List Int := [1, 2, 2, 2, 3, 4, 4, -1]
def pTab1 : List Int := [5, 6, -1, -1, -1, -1, -1, -1]
theorem nl1_f2 : (rd_T39 rnl 1).f2 = 3 := by kernel_rfl
theorem tab0_f1 : (rd_T39 rtab 0).f1 = pTab0 := by kernel_rfl
theorem tab1_f1 : (rd_T39 rtab 1).f1 = pTab1 := by kernel_rfl
theorem tab0_f4 : (rd_T39 rtab 0).f4 = true := by kernel_rfl
theorem tab1_f4 : (rd_T39 rtab 1).f4 = false := by kernel_rfl
theorem toldK (g1 g2 : Nat) (W : World) (hT : Tabs W) (h1 : W.heap[g1]? = some (.cells #[.int .i64 0, .int .i64 1, .int .i64 11, .string ⟨#[97, 98, 99, 100, 101, 102, 103, 104, 105, 106]⟩, .int .i64 0, .int .i64 0, .bool false, .bool false, .bool false] 55 (0, 0)))
    (h2 : W.heap[g2]? = some (.cells #[.string ⟨#[97, 98, 99, 100, 101, 102, 103, 36]⟩] 9 (0, 0))) :
    Calls Tryd.prog 32 #[.slice (some ⟨g1, 0, none⟩) 1 1, .int .i64 11, .bool false, .slice (some ⟨g2, 0, none⟩) 1 1] W fun e w' => ∃ ad c, e = .returned (.slice (some ad) 1 c) ∧ 1 ≤ c ∧ Kd.C k39 w' (some ad) 1 rcut ∧ Below W.heap.size W w' :=
  told_lit (l := [wlong]) (wants := [⟨#[97, 98, 99, 100, 101, 102, 103, 36]⟩]) (n2 := 0) rfl rfl _ _ _ _ 11 false W (parts_C (ps := [wlong]) h1 (by decide)) hT (small_of (by kernel_rfl)) (by decide) (strs_C (ss := [⟨#[97, 98, 99, 100, 101, 102, 103, 36]⟩]) h2 (by decide)) (by kernel_rfl) (short_of (by kernel_rfl)) (by kernel_rfl)
theorem toldN (g1 g2 : Nat) (W : World) (hT : Tabs W) (h1 : W.heap[g1]? = some (.cells #[.int .i64 0, .int .i64 1, .int .i64 3, .string ⟨#[97, 10]⟩, .int .i64 0, .int .i64 0, .bool false, .bool false, .bool false] 55 (0, 0)))
    (h2 : W.heap[g2]? = some (.cells #[.string ⟨#[97, 46, 46, 46, 46, 46, 46, 46]⟩, .string ⟨#[46, 46, 46, 46, 46, 46, 46, 46]⟩] 9 (0, 0))) :
    Calls Tryd.prog 32 #[.slice (some ⟨g1, 0, none⟩) 1 1, .int .i64 3, .bool true, .slice (some ⟨g2, 0, none⟩) 2 2] W fun e w' => ∃ ad c, e = .returned (.slice (some ad) 2 c) ∧ 2 ≤ c ∧ Kd.C k39 w' (some ad) 2 rnl ∧ Below W.heap.size W w' :=
  told_lit (l := [wnl]) (wants := [⟨#[97, 46, 46, 46, 46, 46, 46, 46]⟩, ⟨#[46, 46, 46, 46, 46, 46, 46, 46]⟩]) (n2 := 1) rfl rfl _ _ _ _ 3 true W (parts_C (ps := [wnl]) h1 (by decide)) hT (small_of (by kernel_rfl)) (by decide) (strs_C (ss := [⟨#[97, 46, 46, 46, 46, 46, 46, 46]⟩, ⟨#[46, 46, 46, 46, 46, 46, 46, 46]⟩]) h2 (by decide)) (by kernel_rfl) (short_of (by kernel_rfl)) (by kernel_rfl)
theorem toldT (g1 g2 : Nat) (W : World) (hT : Tabs W) (h1 : W.heap[g1]? = some (.cells #[.int .i64 0, .int .i64 1, .int .i64 6, .string ⟨#[97, 9, 98, 1, 99]⟩, .int .i64 0, .int .i64 0, .bool false, .bool false, .bool false] 55 (0, 0)))
    (h2 : W.heap[g2]? = some (.cells #[.string ⟨#[97, 46, 46, 46, 98, 94, 65, 92]⟩, .string ⟨#[99, 46, 46, 46, 46, 46, 46, 46]⟩] 9 (0, 0))) :
    Calls Tryd.prog 32 #[.slice (some ⟨g1, 0, none⟩) 1 1, .int .i64 6, .bool true, .slice (some ⟨g2, 0, none⟩) 2 2] W fun e w' => ∃ ad c, e = .returned (.slice (some ad) 2 c) ∧ 2 ≤ c ∧ Kd.C k39 w' (some ad) 2 rtab ∧ Below W.heap.size W w' :=
  told_lit (l := [wtab]) (wants := [⟨#[97, 46, 46, 46, 98, 94, 65, 92]⟩, ⟨#[99, 46, 46, 46, 46, 46, 46, 46]⟩]) (n2 := 1) rfl rfl _ _ _ _ 6 true W (parts_C (ps := [wtab]) h1 (by decide)) hT (small_of (by kernel_rfl)) (by decide) (strs_C (ss := [⟨#[97, 46, 46, 46, 98, 94, 65, 92]⟩, ⟨#[99, 46, 46, 46, 46, 46, 46, 46]⟩]) h2 (by decide)) (by kernel_rfl) (short_of (by kernel_rfl)) (by kernel_rfl)
theorem k7 : whereP rmixed 7 = (0, 0, false) := by kernel_rfl
theorem k1 : whereP rmixed 1 = (0, 0, true) := by kernel_rfl
theorem k3 : whereP rmixed 3 = (0, 5, true) := by kernel_rfl
theorem k6 : whereP rmixed 6 = (0, 6, true) := by kernel_rfl
theorem a07 : atP rmixed 0 7 = (6, true) := by kernel_rfl
theorem a01 : atP rmixed 0 1 = (1, true) := by kernel_rfl
theorem a10 : atP rmixed 1 0 = (0, false) := by kernel_rfl
def cShort : List Part := [⟨0, 1, 3, ⟨#[97]⟩, z53⟩]
def cBack : List Part := [⟨0, 2, 1, ⟨#[]⟩, z53⟩]
def cOrder : List Part := [⟨0, 1, 3, ⟨#[97, 98]⟩, z53⟩, ⟨0, 1, 2, ⟨#[97]⟩, z53⟩]
theorem kShort : checkP cShort 1 3 = 5 := by kernel_rfl
theorem kBack : checkP cBack 1 3 = 3 := by kernel_rfl
theorem kOrder : checkP cOrder 1 3 = 19 := by kernel_rfl
theorem rmixed_len : rmixed.length = 1 := by kernel_rfl
end Go.Proofs.YtppjgofjjcdcdaaDoor

/- copyistlaw35.LayoutKnown: it holds. -/
namespace Go.Proofs.YtppjgofjjcdcdaaDoor
open PLayoutRows
open Go.RowKit Go.Proofs.YtppjgofjjcdcdaaDoorW.PrintWords
theorem addr5 (a : Addr) : a.add 5 = ⟨a.block, a.off + 5, none⟩ := by simp [Addr.add]
set_option maxRecDepth 100000
set_option maxHeartbeats 8000000 in
theorem known_any (w : World) (hT : Tabs w) : Calls Tryd.prog 27 #[] w fun e w' => e = .returned (.bool true) ∧ Below w.heap.size w w' := by
  have HT := Lib.hid (fun W (h : Below w.heap.size w W) => hT.below h)
  clear hT
  go_enter Tryd.func27, Tryd.ntmps27
  have HB0 := Lib.hid (Below.refl w.heap.size w)
  go_wp2_with fail
  refine (own_any 1 ⟨#[97, 98, 99, 100, 101, 102, 103, 104, 105, 106]⟩ 11 (by kernel_rfl) _).mono ?_
  rintro e w1 ⟨rfl, hb⟩
  have hrel1 := below_on (Below.refl _ _) hb
  have HB1 := Lib.hid (below_on HB0.out hrel1)
  clear hb hrel1 HB0
  go_wp2_with fail
  refine (toldK _ _ _ (HT.out _ (below_alloc (below_alloc HB1.out _) _)) (two_at _ _ _) (two_at' _ _ _)).mono ?_
  rintro e w2 ⟨ka, kac, rfl, kal, kaC, hb⟩
  have hrel2 := below_on (below_alloc (below_alloc (Below.refl _ _) _) _) hb
  have HB2 := Lib.hid (below_on HB1.out hrel2)
  clear hb hrel2 HB1
  clear kaC
  go_wp2_with fail
  refine (own_any 1 ⟨#[97, 10]⟩ 3 (by kernel_rfl) _).mono ?_
  rintro e w3 ⟨rfl, hb⟩
  have hrel3 := below_on (Below.refl _ _) hb
  have HB3 := Lib.hid (below_on HB2.out hrel3)
  clear hb hrel3 HB2
  go_wp2_with fail
  refine (toldN _ _ _ (HT.out _ (below_alloc (below_alloc HB3.out _) _)) (two_at _ _ _) (two_at' _ _ _)).mono ?_
  rintro e w4 ⟨na, nac, rfl, nal, naC, hb⟩
  have hrel4 := below_on (below_alloc (below_alloc (Below.refl _ _) _) _) hb
  have HB4 := Lib.hid (below_on HB3.out hrel4)
  clear hb hrel4 HB3
  have naH := Lib.hid naC
  clear naC
  go_wp2_with fail
  refine (own_any 1 ⟨#[97, 9, 98, 1, 99]⟩ 6 (by kernel_rfl) _).mono ?_
  rintro e w5 ⟨rfl, hb⟩
  have hrel5 := below_on (Below.refl _ _) hb
  replace naH := Lib.hid (Kd.C_below naH.out hrel5)
  have HB5 := Lib.hid (below_on HB4.out hrel5)
  clear hb hrel5 HB4
  go_wp2_with fail
  refine (toldT _ _ _ (HT.out _ (below_alloc (below_alloc HB5.out _) _)) (two_at _ _ _) (two_at' _ _ _)).mono ?_
  rintro e w6 ⟨ta, tac, rfl, tal, taC, hb⟩
  have hrel6 := below_on (below_alloc (below_alloc (Below.refl _ _) _) _) hb
  replace naH := Lib.hid (Kd.C_below naH.out hrel6)
  have HB6 := Lib.hid (below_on HB5.out hrel6)
  clear hb hrel6 HB5
  have taH := Lib.hid taC
  clear taC
  obtain ⟨_, Y0, Y1, Y2, Y3, e1, -, -, n1, -, -, -, -, -, -⟩ := at_T39 naH.out 1 (by decide) (by decide)
  obtain ⟨_, A0, A1, A2, A3, e2, -, t1, -, -, t4, -, -, tl, tg⟩ := at_T39 taH.out 0 (by decide) (by decide)
  obtain ⟨_, B0, B1, B2, B3, e3, -, s1, -, -, s4, -, -, sl, sg⟩ := at_T39 taH.out 1 (by decide) (by decide)
  cases e1; cases e2; cases e3
  rw [nl1_f2] at n1
  rw [tab0_f1, show pTab0.length = 8 from rfl] at t1 tl tg
  rw [tab1_f1, show pTab1.length = 8 from rfl] at s1 sl sg
  rw [tab0_f4] at t4
  rw [tab1_f4] at s4
  rw [show (0 : Int).toNat * 5 = 0 from rfl] at t1 t4
  rw [show (1 : Int).toNat * 5 = 5 from rfl] at n1 s1 s4
  simp only [Addr.add_zero'] at t1 t4
  simp only [addr5] at n1 s1 s4
  have tl' := Lib.hid tl
  have sl' := Lib.hid sl
  have tg' := Lib.hid tg
  have sg' := Lib.hid sg
  clear tl sl tg sg naH taH
  go_wp2_with (with_reducible refine wpList_unguard (by kernel_rfl) ?_)
  refine (ints_lit (P := pTab0) (Q := pTab0) (r := true) (n1 := 8) (n2 := 8) rfl rfl 10 (by kernel_rfl) _ _ _ 8 _ (Kd.C_below tg'.out (below_alloc (Below.refl _ _) _)) (posB_C (P := pTab0) (World.alloc_heap_new _ _) (by decide)) tl'.out (Nat.le_refl _)).mono ?_
  rintro e w7 ⟨rfl, hb⟩
  clear tg'
  clear n1 t1
  have hrel7 := below_on (below_alloc (Below.refl _ _) _) hb
  replace sg' := Lib.hid (Kd.C_below sg'.out hrel7)
  replace t4 := cell_later hrel7 t4
  replace s1 := cell_later hrel7 s1
  replace s4 := cell_later hrel7 s4
  have HB7 := Lib.hid (below_on HB6.out hrel7)
  clear hb hrel7 HB6
  go_wp2_with (with_reducible refine wpList_unguard (by kernel_rfl) ?_)
  refine (ints_lit (P := pTab1) (Q := pTab1) (r := true) (n1 := 8) (n2 := 8) rfl rfl 10 (by kernel_rfl) _ _ _ 8 _ (Kd.C_below sg'.out (below_alloc (Below.refl _ _) _)) (posB_C (P := pTab1) (World.alloc_heap_new _ _) (by decide)) sl'.out (Nat.le_refl _)).mono ?_
  rintro e w8 ⟨rfl, hb⟩
  clear sg'
  clear s1
  have hrel8 := below_on (below_alloc (Below.refl _ _) _) hb
  replace t4 := cell_later hrel8 t4
  replace s4 := cell_later hrel8 s4
  have HB8 := Lib.hid (below_on HB7.out hrel8)
  clear hb hrel8 HB7
  go_wp2_with (with_reducible refine wpList_unguard (by kernel_rfl) ?_)
  refine (mixed_any _).mono ?_
  rintro e w9 ⟨A9, c9, rfl, -, hC9, hb⟩
  have hrel9 := below_on (Below.refl _ _) hb
  have HB9 := Lib.hid (below_on HB8.out hrel9)
  clear hb hrel9 HB8
  go_wp2_with fail
  refine (toldB A9 c9 _ _ (HT.out _ (below_alloc HB9.out _)) (Kd.C_below hC9 (below_alloc (Below.refl _ _) _)) (World.alloc_heap_new _ _)).mono ?_
  rintro e w10 ⟨cd, cc, rfl, -, cdC, hb⟩
  have hrel10 := below_on (below_alloc (Below.refl _ _) _) hb
  have HB10 := Lib.hid (below_on HB9.out hrel10)
  clear hb hrel10 HB9
  have cdH := Lib.hid cdC
  clear cdC hC9
  go_wp2_with fail
  refine (find_lit cd cc 1 rmixed rmixed_len 7 0 0 false k7 _ cdH.out).mono ?_
  rintro e w11 ⟨rfl, hb⟩
  have hrel11 := below_on (Below.refl _ _) hb
  replace cdH := Lib.hid (Kd.C_below cdH.out hrel11)
  have HB11 := Lib.hid (below_on HB10.out hrel11)
  clear hb hrel11 HB10
  go_wp2_with fail
  refine (at_lit cd cc 1 rmixed rmixed_len 0 7 6 true a07 _ cdH.out).mono ?_
  rintro e w12 ⟨rfl, hb⟩
  have hrel12 := below_on (Below.refl _ _) hb
  replace cdH := Lib.hid (Kd.C_below cdH.out hrel12)
  have HB12 := Lib.hid (below_on HB11.out hrel12)
  clear hb hrel12 HB11
  go_wp2_with fail
  refine (at_lit cd cc 1 rmixed rmixed_len 0 1 1 true a01 _ cdH.out).mono ?_
  rintro e w13 ⟨rfl, hb⟩
  have hrel13 := below_on (Below.refl _ _) hb
  replace cdH := Lib.hid (Kd.C_below cdH.out hrel13)
  have HB13 := Lib.hid (below_on HB12.out hrel13)
  clear hb hrel13 HB12
  go_wp2_with fail
  refine (at_lit cd cc 1 rmixed rmixed_len 1 0 0 false a10 _ cdH.out).mono ?_
  rintro e w14 ⟨rfl, hb⟩
  have hrel14 := below_on (Below.refl _ _) hb
  replace cdH := Lib.hid (Kd.C_below cdH.out hrel14)
  have HB14 := Lib.hid (below_on HB13.out hrel14)
  clear hb hrel14 HB13
  go_wp2_with fail
  refine (where_lit cd cc 1 rmixed rmixed_len 1 0 0 k1 _ cdH.out).mono ?_
  rintro e w15 ⟨rfl, hb⟩
  have hrel15 := below_on (Below.refl _ _) hb
  replace cdH := Lib.hid (Kd.C_below cdH.out hrel15)
  have HB15 := Lib.hid (below_on HB14.out hrel15)
  clear hb hrel15 HB14
  go_wp2_with (with_reducible refine wpList_unguard (by kernel_rfl) ?_)
  refine (where_lit cd cc 1 rmixed rmixed_len 3 0 5 k3 _ cdH.out).mono ?_
  rintro e w16 ⟨rfl, hb⟩
  have hrel16 := below_on (Below.refl _ _) hb
  replace cdH := Lib.hid (Kd.C_below cdH.out hrel16)
  have HB16 := Lib.hid (below_on HB15.out hrel16)
  clear hb hrel16 HB15
  go_wp2_with (with_reducible refine wpList_unguard (by kernel_rfl) ?_)
  refine (where_lit cd cc 1 rmixed rmixed_len 6 0 6 k6 _ cdH.out).mono ?_
  rintro e w17 ⟨rfl, hb⟩
  have hrel17 := below_on (Below.refl _ _) hb
  replace cdH := Lib.hid (Kd.C_below cdH.out hrel17)
  have HB17 := Lib.hid (below_on HB16.out hrel17)
  clear hb hrel17 HB16
  go_wp2_with (with_reducible refine wpList_unguard (by kernel_rfl) ?_)
  clear cdH
  refine (check_lit (l := cShort) (n := 1) rfl _ 1 1 3 5 kShort (by kernel_rfl) _ (parts_C (ps := cShort) (World.alloc_heap_new _ _) (by decide)) (HT.out _ (below_alloc HB17.out _))).mono ?_
  rintro e w18 ⟨rfl, hb⟩
  have hrel18 := below_on (below_alloc (Below.refl _ _) _) hb
  have HB18 := Lib.hid (below_on HB17.out hrel18)
  clear hb hrel18 HB17
  go_wp2_with (with_reducible refine wpList_unguard (by kernel_rfl) ?_)
  refine (check_lit (l := cBack) (n := 1) rfl _ 1 1 3 3 kBack (by kernel_rfl) _ (parts_C (ps := cBack) (World.alloc_heap_new _ _) (by decide)) (HT.out _ (below_alloc HB18.out _))).mono ?_
  rintro e w19 ⟨rfl, hb⟩
  have hrel19 := below_on (below_alloc (Below.refl _ _) _) hb
  have HB19 := Lib.hid (below_on HB18.out hrel19)
  clear hb hrel19 HB18
  go_wp2_with (with_reducible refine wpList_unguard (by kernel_rfl) ?_)
  refine (own_any 1 ⟨#[97, 98]⟩ 3 (by kernel_rfl) _).mono ?_
  rintro e w20 ⟨rfl, hb⟩
  have hrel20 := below_on (Below.refl _ _) hb
  have HB20 := Lib.hid (below_on HB19.out hrel20)
  clear hb hrel20 HB19
  go_wp2_with fail
  refine (own_any 1 ⟨#[97]⟩ 2 (by kernel_rfl) _).mono ?_
  rintro e w21 ⟨rfl, hb⟩
  have hrel21 := below_on (Below.refl _ _) hb
  have HB21 := Lib.hid (below_on HB20.out hrel21)
  clear hb hrel21 HB20
  go_wp2_with fail
  refine (check_lit (l := cOrder) (n := 2) rfl _ 2 1 3 19 kOrder (by kernel_rfl) _ (parts_C (ps := cOrder) (World.alloc_heap_new _ _) (by decide)) (HT.out _ (below_alloc HB21.out _))).mono ?_
  rintro e w22 ⟨rfl, hb⟩
  have hrel22 := below_on (below_alloc (Below.refl _ _) _) hb
  have HB22 := Lib.hid (below_on HB21.out hrel22)
  clear hb hrel22 HB21
  go_wp2_with (with_reducible refine wpList_unguard (by kernel_rfl) ?_)
  refine (rows_nil _ (HT.out _ HB22.out)).mono ?_
  rintro e w23 ⟨v23, rfl, hb⟩
  have hrel23 := below_on (Below.refl _ _) hb
  have HB23 := Lib.hid (below_on HB22.out hrel23)
  clear hb hrel23 HB22
  go_wp2_with fail
  refine (awake_any _ (HT.out _ HB23.out)).mono ?_
  rintro e w24 ⟨rfl, hb⟩
  have hrel24 := below_on (Below.refl _ _) hb
  have HB24 := Lib.hid (below_on HB23.out hrel24)
  clear hb hrel24 HB23
  go_wp2_with (with_reducible refine wpList_unguard (by kernel_rfl) ?_)
  go_ret
  exact ⟨rfl, HB24.out⟩
end Go.Proofs.YtppjgofjjcdcdaaDoor

/- copyistlaw35.long and vast: whether lists are too great for the statements. -/
namespace Go.Proofs.YtppjgofjjcdcdaaDoor
open PLayoutRows
open Go.RowKit Go.Proofs.YtppjgofjjcdcdaaDoorW.PrintWords
theorem wrap_nat {k : Nat} (h : k ≤ 9223372036854775807) : wrap64 (k : Int) = (k : Int) := by unfold wrap64; omega
theorem long_at (l : List Part) : ∀ (d i : Nat), i + d = 32 → (∀ j, j < i → (rd_T55 l (j : Int)).f3.size ≤ 200) → ∃ b, copyistlaw35_long.l0 (2 * d + 3) l (i : Int) = some b ∧ (b = false → l.length ≤ 30 ∧ ∀ j, j < l.length → (rd_T55 l (j : Int)).f3.size ≤ 200)
  | 0, i, h, hs => by
    refine ⟨decide ((l.length : Int) > 30), ?_, fun hb => ?_⟩
    · simp only [copyistlaw35_long.l0]
      by_cases c : (i : Int) < (l.length : Int)
      · rw [if_pos c]
        simp only [copyistlaw35_long.j1]
        rw [decide_eq_false (by omega), if_neg (by simp)]
      · rw [if_neg c]
        simp only [copyistlaw35_long.j1]
        rw [if_neg (by simp)]
    · have := of_decide_eq_false hb
      exact ⟨by omega, fun j hj => hs j (by omega)⟩
  | d + 1, i, h, hs => by
    have done : ∀ b : Bool, copyistlaw35_long.j1 (2 * (d + 1) + 2) l (i : Int) false = some (decide ((l.length : Int) > 30)) := by
      intro b
      rw [show 2 * (d + 1) + 2 = (2 * d + 3) + 1 by omega]
      simp only [copyistlaw35_long.j1]
      rw [if_neg (by simp)]
    rw [show 2 * (d + 1) + 3 = (2 * (d + 1) + 2) + 1 by omega]
    simp only [copyistlaw35_long.l0]
    by_cases c : (i : Int) < (l.length : Int)
    · rw [if_pos c]
      by_cases c2 : (i : Int) < 31
      · rw [decide_eq_true c2, show 2 * (d + 1) + 2 = (2 * d + 3) + 1 by omega]
        rw [copyistlaw35_long.j1]
        rw [if_pos rfl, if_pos (by omega), if_pos c]
        by_cases c3 : (((rd_T55 l (i : Int)).f3).size : Int) > 200
        · rw [if_pos c3]
          exact ⟨true, rfl, fun h => by cases h⟩
        · rw [if_neg c3, show ((i : Int) + 1) = ((i + 1 : Nat) : Int) by omega, wrap_nat (by omega)]
          exact long_at l d (i + 1) (by omega) (fun j hj => by
            rcases Nat.lt_or_ge j i with h1 | h1
            · exact hs j h1
            · rw [show j = i by omega]; omega)
      · rw [decide_eq_false c2, done true]
        exact ⟨_, rfl, fun hb => by have := of_decide_eq_false hb; omega⟩
    · rw [if_neg c, done true]
      exact ⟨_, rfl, fun hb => by have := of_decide_eq_false hb; exact ⟨by omega, fun j hj => hs j (by omega)⟩⟩
theorem long_any (A : Option Addr) (n c : Nat) (l : List Part) (hn : l.length = n) (hc : n ≤ c) (w : World) (hC : Kd.C k55 w A n l) :
    Calls Tryd.prog 8 #[.slice A n c] w fun e w' => ∃ b, e = .returned (.bool b) ∧ (b = false → l.length ≤ 30 ∧ ∀ p ∈ l, p.f3.size ≤ 200) ∧ Drawn0 w w' := by
  subst hn
  obtain ⟨b, hb, hs⟩ := long_at l 32 0 (by omega) (fun j hj => by omega)
  refine (copyistlaw35_long.calls (2 * 32 + 3) A c l b w hC hc hb).mono ?_
  rintro e w' ⟨rfl, hd⟩
  refine ⟨b, rfl, fun h => ⟨(hs h).1, fun p hp => ?_⟩, hd⟩
  obtain ⟨j, hj, rfl⟩ := List.getElem_of_mem hp
  have := (hs h).2 j hj
  simpa [rd_T55, hj] using this
theorem vast_at (l : List Part) (w_ t m : Int) (hl : l.length ≤ 1000) : ∀ (d i : Nat) (n : Int), i + d = l.length → ∃ b, copyistlaw35_vast.l0 (d + 1) l w_ t m n (i : Int) = some b
  | 0, i, n, h => by
    simp only [copyistlaw35_vast.l0]
    rw [if_neg (by omega)]
    split
    · exact ⟨_, rfl⟩
    · split
      · exact ⟨_, rfl⟩
      · split
        · exact ⟨_, rfl⟩
        · split
          · exact ⟨_, rfl⟩
          · exact ⟨_, rfl⟩
  | d + 1, i, n, h => by
    rw [copyistlaw35_vast.l0]
    rw [if_pos (by omega), if_pos (by omega), show ((i : Int) + 1) = ((i + 1 : Nat) : Int) by omega, wrap_nat (by omega)]
    exact vast_at l w_ t m hl d (i + 1) _ (by omega)
theorem vast_any (A : Option Addr) (n c : Nat) (l : List Part) (hn : l.length = n) (hc : n ≤ c) (hl : l.length ≤ 1000) (width tab m : Int) (w : World) (hC : Kd.C k55 w A n l) :
    Calls Tryd.prog 9 #[.slice A n c, .int .i64 width, .int .i64 tab, .int .i64 m] w fun e w' => ∃ b, e = .returned (.bool b) ∧ Drawn0 w w' := by
  subst hn
  obtain ⟨b, hb⟩ := vast_at l width tab m hl l.length 0 0 (by omega)
  refine (copyistlaw35_vast.calls (l.length + 1) A c l width tab m b w hC hc hb).mono ?_
  rintro e w' ⟨rfl, hd⟩
  exact ⟨b, rfl, hd⟩
end Go.Proofs.YtppjgofjjcdcdaaDoor

/- The plain law of LayoutFits: wrapped and cut rows, and the first rows of them. -/
namespace Go.Proofs.YtppjgofjjcdcdaaDoor
open PLayoutRows
def nextF (to_ : Int) (E : List Row) (i : Nat) : Int := match E[i + 1]? with
  | some r => r.f2
  | none => to_
theorem setLastR_get : ∀ (rs : List Row) (t : Int) (i : Nat), (setLastR rs t)[i]? = if i + 1 = rs.length then rs[i]?.map (toR · t) else rs[i]?
  | [], t, i => by simp [setLastR]
  | [r], t, 0 => by simp [setLastR]
  | [r], t, i + 1 => by simp [setLastR]
  | r :: e :: rs, t, 0 => by simp [setLastR]
  | r :: e :: rs, t, i + 1 => by
    have ih := setLastR_get (e :: rs) t i
    simp only [setLastR, List.getElem?_cons_succ, List.length_cons] at *
    rw [ih]
    by_cases h : i + 1 = rs.length + 1
    · rw [if_pos h, if_pos (by omega)]
    · rw [if_neg h, if_neg (by omega)]
theorem toR_toR (r : Row) (a b : Int) : toR (toR r a) b = toR r b := rfl
theorem tosR_get (to_ : Int) : ∀ (n : Nat) (E : List Row), E.length = n → ∀ i, (tosR to_ E)[i]? = E[i]?.map fun r => toR r (nextF to_ E i)
  | 0, E, h, i => by
    rw [List.length_eq_zero_iff.1 h]; rfl
  | n + 1, E, h, i => by
    obtain ⟨E0, r, rfl⟩ : ∃ E0 r, E = E0 ++ [r] := ⟨E.dropLast, E.getLast (by intro e; rw [e] at h; simp at h), (List.dropLast_concat_getLast _).symm⟩
    have hl : E0.length = n := by simpa using h
    have ih := tosR_get to_ n E0 hl
    have hlt : (tosR to_ E0).length = E0.length := tosR_len _ _
    rw [tosR_snoc]
    unfold addR
    rcases Nat.lt_trichotomy i E0.length with hi | hi | hi
    · rw [List.getElem?_append_left (by rw [setLastR_len, hlt]; exact hi), setLastR_get, ih, List.getElem?_append_left hi, hlt]
      by_cases h1 : i + 1 = E0.length
      · rw [if_pos h1, Option.map_map]
        have hn : nextF to_ (E0 ++ [r]) i = r.f2 := by unfold nextF; rw [h1, List.getElem?_append_right (Nat.le_refl _)]; simp
        rw [hn]; rfl
      · rw [if_neg h1]
        have hn : nextF to_ (E0 ++ [r]) i = nextF to_ E0 i := by unfold nextF; rw [List.getElem?_append_left (by omega)]
        rw [hn]
    · subst hi
      rw [List.getElem?_append_right (by rw [setLastR_len, hlt]; exact Nat.le_refl _), setLastR_len, hlt, Nat.sub_self, List.getElem?_append_right (Nat.le_refl _), Nat.sub_self]
      have hn : nextF to_ (E0 ++ [r]) E0.length = to_ := by unfold nextF; rw [List.getElem?_eq_none (by simp)]
      rw [hn]; rfl
    · rw [List.getElem?_eq_none (by rw [List.length_append, setLastR_len, hlt]; simp; omega), List.getElem?_eq_none (by simp; omega)]; rfl
theorem collectR_get (to_ : Int) (m : Nat) (E : List Row) (i : Nat) : (collectR to_ m E)[i]? = if i < m then E[i]?.map fun r => toR r (nextF to_ E i) else none := by
  unfold collectR
  by_cases h : E.length ≤ m
  · rw [if_pos h, tosR_get to_ _ E rfl]
    by_cases hi : i < m
    · rw [if_pos hi]
    · rw [if_neg hi, List.getElem?_eq_none (by omega)]; rfl
  · rw [if_neg h, setLastR_get, tosR_len, tosR_get to_ _ (E.take m) rfl, List.length_take, Nat.min_eq_left (by omega)]
    by_cases hi : i < m
    · rw [if_pos hi, List.getElem?_take_of_lt hi]
      by_cases h1 : i + 1 = m
      · rw [if_pos h1, Option.map_map]
        have hn : nextF to_ E i = (E.getD m z39).f2 := by unfold nextF; rw [h1, List.getElem?_eq_getElem (by omega)]; simp [show m < E.length by omega]
        rw [hn]; rfl
      · rw [if_neg h1]
        have hn : nextF to_ (E.take m) i = nextF to_ E i := by unfold nextF; rw [List.getElem?_take_of_lt (by omega)]
        rw [hn]
    · rw [if_neg hi, if_neg (by omega), List.getElem?_eq_none (by rw [List.length_take]; omega)]; rfl
theorem collectR_take (to_ : Int) (m M : Nat) (E : List Row) (h : m ≤ M) : collectR to_ m E = (collectR to_ M E).take m := by
  apply List.ext_getElem?
  intro i
  rw [collectR_get]
  by_cases hi : i < m
  · rw [if_pos hi, List.getElem?_take_of_lt hi, collectR_get, if_pos (by omega)]
  · rw [if_neg hi, List.getElem?_eq_none (by rw [List.length_take]; omega)]
/-- Wrapped, and cut: the states agree up to the first row that is continued. -/
def Agree (s t : RS) : Prop :=
  (s = t ∧ s.over = false ∧ s.x.cont = false ∧ ∀ r ∈ s.rows, r.f4 = false) ∨
  ∃ j, j < s.rows.length ∧ (∀ r, s.rows[j]? = some r → r.f4 = true ∧ ((∃ q, t.rows[j]? = some q ∧ q.f2 = r.f2) ∨ (t.rows.length = j ∧ t.over = true ∧ t.x.fr = r.f2))) ∧ j ≤ t.rows.length ∧ s.rows.take j = t.rows.take j
theorem at0_cont (x : Fil) (pos : Int) : (x.at0 pos).cont = x.cont := by unfold Fil.at0; split <;> rfl
theorem puts_cont (pos : Int) : ∀ (cs : List Cell) (x : Fil), (x.puts cs pos).cont = x.cont
  | [], x => rfl
  | c :: cs, x => by
    have := puts_cont pos cs (x.add1 c pos)
    exact this
theorem put_cont (x : Fil) (cs : List Cell) (pos : Int) : (x.put cs pos).cont = x.cont := by unfold Fil.put; rw [puts_cont, at0_cont]
theorem agree_step (width : Nat) (s t : RS) (u : Unt) (h : Agree s t) : Agree (stepR width true s u) (stepR width false t u) := by
  rcases h with ⟨rfl, ho, hc, hr⟩ | ⟨j, hj, hrow, hjt, htk⟩
  · by_cases hu : u.feed = true
    · left
      unfold stepR
      rw [if_pos hu]
      refine ⟨by rw [if_pos hu], rfl, rfl, ?_⟩
      intro r hm
      rcases List.mem_append.1 hm with hm | hm
      · exact hr r hm
      · rw [List.mem_singleton] at hm
        rw [hm, ho]
        show (s.x.end_ u.pos).cont = false
        unfold Fil.end_
        rw [← hc, ← at0_cont s.x u.pos]
    · have hov : ¬ s.over = true := by rw [ho]; simp
      by_cases hf : s.x.fits u.cells.length = true
      · left
        unfold stepR
        rw [if_neg hu, if_neg hov, if_pos hf, if_neg hu, if_neg hov, if_pos hf]
        exact ⟨rfl, rfl, by rw [put_cont]; exact hc, hr⟩
      · right
        refine ⟨s.rows.length, ?_, ?_, ?_, ?_⟩
        · unfold stepR
          rw [if_neg hu, if_neg hov, if_neg hf, if_pos rfl]
          simp
        · intro r hm
          unfold stepR at hm ⊢
          rw [if_neg hu, if_neg hov, if_neg hf, if_pos rfl, List.getElem?_append_right (Nat.le_refl _), Nat.sub_self] at hm
          rw [if_neg hu, if_neg hov, if_neg hf, if_neg (by simp)]
          cases hm
          exact ⟨rfl, .inr ⟨rfl, rfl, rfl⟩⟩
        · unfold stepR
          rw [if_neg hu, if_neg hov, if_neg hf, if_neg (by simp)]
          exact Nat.le_refl _
        · unfold stepR
          rw [if_neg hu, if_neg hov, if_neg hf, if_pos rfl, if_neg hu, if_neg hov, if_neg hf, if_neg (by simp)]
          simp
  · right
    obtain ⟨zs, hz⟩ := stepR_pre width true s u
    obtain ⟨ys, hy⟩ := stepR_pre width false t u
    refine ⟨j, by rw [← hz, List.length_append]; omega, ?_, by rw [← hy, List.length_append]; omega, ?_⟩
    · intro r hm
      rw [← hz, List.getElem?_append_left hj] at hm
      obtain ⟨h4, h⟩ := hrow r hm
      refine ⟨h4, ?_⟩
      rcases h with ⟨q, hq, h2⟩ | ⟨hl, ho, hf⟩
      · have hjl : j < t.rows.length := (List.getElem?_eq_some_iff.1 hq).1
        exact .inl ⟨q, by rw [← hy, List.getElem?_append_left hjl]; exact hq, h2⟩
      · by_cases hu : u.feed = true
        · left
          refine ⟨rowOf t.x, ?_, hf⟩
          unfold stepR
          rw [if_pos hu, ho, if_pos rfl, List.getElem?_append_right (by omega), hl, Nat.sub_self]
          rfl
        · right
          unfold stepR
          rw [if_neg hu, if_pos ho]
          exact ⟨hl, ho, hf⟩
    · rw [← hz, ← hy, List.take_append_of_le_length (by omega), List.take_append_of_le_length hjt]
      exact htk
theorem agree_all (width : Nat) (us : List Unt) : Agree (rowsS width true us) (rowsS width false us) := by
  have key : ∀ (us : List Unt) (s t : RS), Agree s t → Agree (us.foldl (stepR width true) s) (us.foldl (stepR width false) t) := by
    intro us
    induction us with
    | nil => intro s t h; exact h
    | cons u us ih => intro s t h; exact ih _ _ (agree_step width s t u h)
  exact key us _ _ (.inl ⟨rfl, rfl, rfl, by simp⟩)
theorem fits_same (to_ : Int) (width m : Nat) (us : List Unt) (h : ∀ r ∈ collectR to_ m (rowsE width true to_ us), r.f4 = false) : collectR to_ m (rowsE width true to_ us) = collectR to_ m (rowsE width false to_ us) := by
  rcases agree_all width us with ⟨he, _, _, _⟩ | ⟨j, hj, hrow, hjt, htk⟩
  · unfold rowsE
    rw [he]
  · obtain ⟨r, hr⟩ : ∃ r, (rowsS width true us).rows[j]? = some r := ⟨_, List.getElem?_eq_getElem hj⟩
    obtain ⟨h4, h2⟩ := hrow r hr
    have hE : (rowsE width true to_ us)[j]? = some r := by unfold rowsE; rw [List.getElem?_append_left hj]; exact hr
    obtain ⟨q, hq, hq2⟩ : ∃ q, (rowsE width false to_ us)[j]? = some q ∧ q.f2 = r.f2 := by
      rcases h2 with ⟨q, hq, h2⟩ | ⟨hl, ho, hf⟩
      · exact ⟨q, by unfold rowsE; rw [List.getElem?_append_left (List.getElem?_eq_some_iff.1 hq).1]; exact hq, h2⟩
      · refine ⟨rowOf (rowsS width false us).x, ?_, hf⟩
        unfold rowsE
        rw [List.getElem?_append_right (by omega), hl, Nat.sub_self, ho]
        rfl
    have htE : ∀ i, i < j → (rowsE width true to_ us)[i]? = (rowsE width false to_ us)[i]? := by
      intro i hi
      unfold rowsE
      rw [List.getElem?_append_left (by omega), List.getElem?_append_left (by omega), ← List.getElem?_take_of_lt hi, htk, List.getElem?_take_of_lt hi]
    have hmj : m ≤ j := by
      rcases Nat.lt_or_ge j m with hlt | hge
      · have h1 : (collectR to_ m (rowsE width true to_ us))[j]? = some (toR r (nextF to_ (rowsE width true to_ us) j)) := by rw [collectR_get, if_pos hlt, hE]; rfl
        have := h _ (List.mem_of_getElem? h1)
        have h5 : r.f4 = false := this
        rw [h4] at h5
        cases h5
      · exact hge
    apply List.ext_getElem?
    intro i
    rw [collectR_get, collectR_get]
    by_cases hi : i < m
    · rw [if_pos hi, if_pos hi, htE i (by omega)]
      have hn : nextF to_ (rowsE width true to_ us) i = nextF to_ (rowsE width false to_ us) i := by
        unfold nextF
        rcases Nat.lt_or_ge (i + 1) j with h1 | h1
        · rw [htE (i + 1) h1]
        · rw [show i + 1 = j by omega, hE, hq]
          exact hq2.symm
      rw [hn]
    · rw [if_neg hi, if_neg hi]
def anyC (rs : List Row) : Bool := rs.any (·.f4)
theorem collectR_len (to_ : Int) (m : Nat) (E : List Row) : (collectR to_ m E).length ≤ m := by
  rcases Nat.lt_or_ge m (collectR to_ m E).length with h | h
  · have h1 := collectR_get to_ m E m
    rw [if_neg (by omega), List.getElem?_eq_getElem h] at h1
    cases h1
  · exact h
theorem fits_law {l : List Part} {from_ to_ width tab most : Int} {ra rb rc : List Row} {ec : Int} (ha : rowsP l from_ to_ width tab true 10000 = (ra, 0)) (hb : rowsP l from_ to_ width tab false 10000 = (rb, 0)) (hc : rowsP l from_ to_ width tab true most = (rc, ec)) :
    (anyC ra = false → ra = rb) ∧ (0 ≤ most ∧ most ≤ 10000 → ec = 0 ∧ rc = ra.take most.toNat) ∧ (¬ (0 ≤ most ∧ most ≤ 10000) → ec = 3) ∧ ra.length ≤ 10000 := by
  have hch : checkP l from_ to_ = 0 := by
    unfold rowsP at ha
    split at ha
    · rename_i h; exact absurd (congrArg Prod.snd ha) h
    · rename_i h; exact Classical.not_not.1 h
  have hbad : ¬ badR width tab 10000 := by
    unfold rowsP at ha
    rw [hch, if_neg (by simp)] at ha
    split at ha
    · cases ha
    · assumption
  unfold rowsP at ha hb hc
  rw [hch, if_neg (by simp), if_neg hbad] at ha hb
  rw [hch, if_neg (by simp)] at hc
  cases ha
  cases hb
  refine ⟨fun h => fits_same _ _ _ _ (fun r hr => ?_), fun hm => ?_, fun hm => ?_, collectR_len _ _ _⟩
  · unfold anyC at h
    have := List.any_eq_false.1 h r hr
    simpa using this
  · rw [if_neg (by unfold badR at hbad ⊢; omega)] at hc
    cases hc
    exact ⟨rfl, collectR_take _ _ _ _ (by omega)⟩
  · rw [if_pos (by unfold badR at hbad ⊢; omega)] at hc
    cases hc
    rfl
end Go.Proofs.YtppjgofjjcdcdaaDoor

/- Rows are as wide as asked; layout.Rows as the kit's kinds read its result. -/
namespace Go.Proofs.YtppjgofjjcdcdaaDoor
open PLayoutRows
open Go.RowKit Go.Proofs.YtppjgofjjcdcdaaDoorW.PrintWords
def Wide (width : Nat) (x : Fil) : Prop := x.cells.length = width ∧ x.pos.length = width
theorem wide_put {width : Nat} {x : Fil} (h : Wide width x) (cs : List Cell) (pos : Int) : Wide width (x.put cs pos) := by
  obtain ⟨h1, h2, _⟩ := puts_len cs pos (x.at0 pos)
  have h0 := at0_same x pos
  unfold Fil.put
  exact ⟨by rw [h1, h0.1]; exact h.1, by rw [h2, h0.2.1]; exact h.2⟩
theorem wide_end {width : Nat} {x : Fil} (h : Wide width x) (pos : Int) : Wide width (x.end_ pos) := by
  have h0 := at0_same x pos
  exact ⟨by show (x.at0 pos).cells.length = _; rw [h0.1]; exact h.1, by show (x.pos.set x.n pos).length = _; rw [List.length_set]; exact h.2⟩
theorem wide_mark {width : Nat} {x : Fil} (h : Wide width x) (c : Int) : Wide width (x.mark c) := ⟨by simp [Fil.mark, h.1], h.2⟩
theorem wide_new (width : Nat) : Wide width (newFil width) := ⟨by simp [newFil, blankP], by simp [newFil]⟩
theorem wide_step (width : Nat) (wrap : Bool) (s : RS) (u : Unt) (h : Wide width s.x) (hr : ∀ r ∈ s.rows, r.f0.length = width ∧ r.f1.length = width) :
    Wide width (stepR width wrap s u).x ∧ ∀ r ∈ (stepR width wrap s u).rows, r.f0.length = width ∧ r.f1.length = width := by
  have add : ∀ (x : Fil), Wide width x → ∀ r ∈ s.rows ++ [rowOf x], r.f0.length = width ∧ r.f1.length = width := by
    intro x hx r hm
    rcases List.mem_append.1 hm with hm | hm
    · exact hr r hm
    · rw [List.mem_singleton] at hm; rw [hm]; exact hx
  unfold stepR
  split
  · refine ⟨wide_new width, add _ ?_⟩
    split
    · exact h
    · exact wide_end h _
  · split
    · exact ⟨h, hr⟩
    · split
      · exact ⟨wide_put h _ _, hr⟩
      · split
        · exact ⟨wide_put (wide_new width) _ _, add _ (wide_mark h 92)⟩
        · exact ⟨wide_mark h _, hr⟩
theorem wide_all (width : Nat) (wrap : Bool) (us : List Unt) : Wide width (rowsS width wrap us).x ∧ ∀ r ∈ (rowsS width wrap us).rows, r.f0.length = width ∧ r.f1.length = width := by
  have key : ∀ (us : List Unt) (s : RS), Wide width s.x → (∀ r ∈ s.rows, r.f0.length = width ∧ r.f1.length = width) → Wide width (us.foldl (stepR width wrap) s).x ∧ ∀ r ∈ (us.foldl (stepR width wrap) s).rows, r.f0.length = width ∧ r.f1.length = width := by
    intro us
    induction us with
    | nil => intro s h hr; exact ⟨h, hr⟩
    | cons u us ih => intro s h hr; obtain ⟨a, b⟩ := wide_step width wrap s u h hr; exact ih _ a b
  exact key us _ (wide_new width) (by simp)
theorem rowsE_width (width : Nat) (wrap : Bool) (to_ : Int) (us : List Unt) : ∀ r ∈ rowsE width wrap to_ us, r.f0.length = width ∧ r.f1.length = width := by
  obtain ⟨h, hr⟩ := wide_all width wrap us
  intro r hm
  unfold rowsE at hm
  rcases List.mem_append.1 hm with hm | hm
  · exact hr r hm
  · rw [List.mem_singleton] at hm
    rw [hm]
    split
    · exact h
    · exact wide_end h _
theorem collectR_width (width : Nat) (to_ : Int) (m : Nat) (E : List Row) (h : ∀ r ∈ E, r.f0.length = width ∧ r.f1.length = width) : ∀ r ∈ collectR to_ m E, r.f0.length = width ∧ r.f1.length = width := by
  intro r hm
  obtain ⟨i, hi⟩ := List.mem_iff_getElem?.1 hm
  rw [collectR_get] at hi
  split at hi
  · rw [Option.map_eq_some_iff] at hi
    obtain ⟨q, hq, rfl⟩ := hi
    exact h q (List.mem_of_getElem? hq)
  · cases hi
theorem rowsP_width (l : List Part) (from_ to_ width tab : Int) (wrap : Bool) (most : Int) : ∀ r ∈ (rowsP l from_ to_ width tab wrap most).1, r.f0.length = width.toNat ∧ r.f1.length = width.toNat ∧ width ≤ 1000 := by
  intro r hm
  unfold rowsP at hm
  split at hm
  · simp at hm
  · split at hm
    · simp at hm
    · rename_i h
      have hw : width ≤ 1000 := by unfold badR at h; omega
      obtain ⟨a, b⟩ := collectR_width width.toNat to_ most.toNat _ (rowsE_width width.toNat wrap to_ _) r hm
      exact ⟨a, b, hw⟩
/-- layout.Rows: a slice that reads as the rows. -/
theorem rows_C (A : Option Addr) (n c : Nat) (l : List Part) (hn : l.length = n) (from_ to_ width tab : Int) (wrap : Bool) (most : Int) (w : World) (hd : Kd.C k55 w A n l) (hT : Tabs w) (hs : ∀ p ∈ l, p.f3.size ≤ 1000000) (hll : l.length ≤ 1000) (rs : List Row) (err : Int) (hr : rowsP l from_ to_ width tab wrap most = (rs, err)) :
    Calls Tryd.prog 12 #[.slice A n c, .int .i64 from_, .int .i64 to_, .int .i64 width, .int .i64 tab, .bool wrap, .int .i64 most] w fun e w' =>
      ∃ B d, e = .returned (.tuple #[.slice B rs.length d, .int .i64 err]) ∧ rs.length ≤ d ∧ Kd.C k39 w' B rs.length rs ∧ Below w.heap.size w w' := by
  subst hn
  refine (callsIn_wide.1 (rows_any A c l from_ to_ width tab wrap most w hd hT hs hll)).mono ?_
  rintro e w' ⟨v, ds, rfl, ho, hmap, hf⟩
  rw [hr] at hmap ⊢
  have hmap' : ds.map RowD.row = rs := hmap
  have hw := rowsP_width l from_ to_ width tab wrap most
  rw [hr] at hw
  have hds : ds.length = rs.length := by rw [← hmap', List.length_map]
  obtain ⟨A1, c1, rfl, hc1, hC1⟩ := ho.toC (fun d h => by have := hw d.row (by show d.row ∈ rs; rw [← hmap']; exact List.mem_map_of_mem h); omega)
  rw [hds, hmap'] at hC1
  exact ⟨A1, c1, by rw [hds], by omega, hC1, hf.toBelow⟩
theorem rowsP_err (l : List Part) (from_ to_ width tab : Int) (wrap : Bool) (most : Int) : (rowsP l from_ to_ width tab wrap most).2 = if checkP l from_ to_ ≠ 0 then checkP l from_ to_ else if badR width tab most then 3 else 0 := by
  unfold rowsP; split <;> (try split) <;> rfl
end Go.Proofs.YtppjgofjjcdcdaaDoor

/- copyistkit.SameCells, SameRows: of equal lists they say true. -/
namespace Go.Proofs.YtppjgofjjcdcdaaDoor
open PLayoutRows
open Go.RowKit Go.Proofs.YtppjgofjjcdcdaaDoorW.PrintWords
attribute [local go_sem high] eqA78
set_option maxRecDepth 100000
set_option maxHeartbeats 1600000 in
theorem cells_same (A : Option Addr) (c : Nat) (B : Option Addr) (d : Nat) (cs : List Cell) (n : Nat) (w : World) (hA : Kd.C k78 w A n cs) (hB : Kd.C k78 w B n cs) :
    Calls Tryd.prog 24 #[.slice A n c, .slice B n d] w fun e w' => e = .returned (.bool true) ∧ Drawn0 w w' := by
  have hu78 := Tryd.underlying78
  have hnb : n ≤ 9223372036854775807 := hA.2.1
  have HA := Lib.hid hA
  have HB := Lib.hid hB
  clear hA hB
  go_enter Tryd.func24, Tryd.ntmps24
  go_wp2
  go_loopw [5, 6] (fun v i wr => ∃ k : Nat, v = .bool true ∧ i = .int .i64 k ∧ k ≤ n ∧ Drawn0 w wr) (fun _ i _ => n - (intOf i).toNat)
  case atStart => exact ⟨0, by simp, rfl, Nat.zero_le _, Drawn0.refl _⟩
  case round =>
    obtain ⟨k, rfl, rfl, hk, ⟨m1, rfl⟩⟩ := hrel
    by_cases hlt : k < n
    · obtain ⟨ad, rfl, x0, x1, x2, x3, x4, x5⟩ := at_T78 HA.out (k : Int) (by omega) (by omega)
      obtain ⟨bd, rfl, y0, y1, y2, y3, y4, y5⟩ := at_T78 HB.out (k : Int) (by omega) (by omega)
      rw [Int.toNat_natCast] at x0 x1 x2 x3 x4 x5 y0 y1 y2 y3 y4 y5
      obtain ⟨x, hx⟩ : ∃ x, rd_T78 cs (k : Int) = x := ⟨_, rfl⟩
      rw [hx] at x0 x1 x2 x3 x4 x5 y0 y1 y2 y3 y4 y5
      clear hx
      have hk0 : (0 : Int) ≤ (k : Int) := by omega
      have hk1 : (k : Int) < (n : Int) := by omega
      go_wp2
      repeat (go_quiet (fail); try go_wp2)
      go_roundw
      case rel => exact ⟨k + 1, by simp, by go_num, by omega, by repeat (first | exact Drawn0.refl _ | apply Drawn0.step)⟩
      case measure => simp [intOf]; omega
    · have hkn : k = n := by omega
      subst hkn
      go_wp2
      repeat (go_quiet (fail); try go_wp2)
      go_ret
      exact ⟨rfl, by repeat (first | exact Drawn0.refl _ | apply Drawn0.step)⟩
set_option maxRecDepth 100000
set_option maxHeartbeats 1600000 in
theorem ints_same (A : Option Addr) (c : Nat) (B : Option Addr) (d : Nat) (P : List Int) (n : Nat) (w : World) (hA : Kd.C (Kd.int .i64) w A n P) (hB : Kd.C (Kd.int .i64) w B n P) :
    Calls Tryd.prog 34 #[.slice A n c, .slice B n d] w fun e w' => e = .returned (.bool true) ∧ Drawn0 w w' := by
  have hnb : n ≤ 9223372036854775807 := hA.2.1
  have HA := Lib.hid hA
  have HB := Lib.hid hB
  clear hA hB
  go_enter Tryd.func34, Tryd.ntmps34
  go_wp2
  go_loopw [5, 6] (fun v i wr => ∃ k : Nat, v = .bool true ∧ i = .int .i64 k ∧ k ≤ n ∧ Drawn0 w wr) (fun _ i _ => n - (intOf i).toNat)
  case atStart => exact ⟨0, by simp, rfl, Nat.zero_le _, Drawn0.refl _⟩
  case round =>
    obtain ⟨k, rfl, rfl, hk, ⟨m1, rfl⟩⟩ := hrel
    by_cases hlt : k < n
    · obtain ⟨ad, rfl, x0⟩ := at_int HA.out k hlt
      obtain ⟨bd, rfl, y0⟩ := at_int HB.out k hlt
      obtain ⟨x, hx⟩ : ∃ x, P.getD k 0 = x := ⟨_, rfl⟩
      rw [hx] at x0 y0
      clear hx
      have hk0 : (0 : Int) ≤ (k : Int) := by omega
      have hk1 : (k : Int) < (n : Int) := by omega
      go_wp2
      repeat (go_quiet (fail); try go_wp2)
      go_roundw
      case rel => exact ⟨k + 1, by simp, by go_num, by omega, by repeat (first | exact Drawn0.refl _ | apply Drawn0.step)⟩
      case measure => simp [intOf]; omega
    · have hkn : k = n := by omega
      subst hkn
      go_wp2
      repeat (go_quiet (fail); try go_wp2)
      go_ret
      exact ⟨rfl, by repeat (first | exact Drawn0.refl _ | apply Drawn0.step)⟩
theorem quiet_C {f : FuncId} {args : Array Value} {w : World} {n : Nat} {v : Value} (h : ∀ W, Drawn0 w W → Calls Tryd.prog f args W fun e w' => e = .returned v ∧ Drawn0 W w') : Calls Tryd.prog f args (w.drewN n) fun e w'' => e = .returned v ∧ ∃ m, w'' = w.drewN m :=
  Calls.quiet_of ((h _ ((Drawn0.refl w).step n)).mono fun _ _ ⟨he, ⟨hd⟩⟩ => ⟨he, hd⟩)
theorem C_drawn {α : Type} {d : Kd α} {w W : World} {A : Option Addr} {n : Nat} {xs : List α} (h : Kd.C d w A n xs) (hd : Drawn0 w W) : Kd.C d W A n xs := Kd.C_below h hd.below
set_option maxHeartbeats 8000000 in
theorem rows_same (A : Option Addr) (c : Nat) (B : Option Addr) (d : Nat) (rs : List Row) (n : Nat) (w : World) (hA : Kd.C k39 w A n rs) (hB : Kd.C k39 w B n rs) :
    Calls Tryd.prog 14 #[.slice A n c, .slice B n d] w fun e w' => e = .returned (.bool true) ∧ Drawn0 w w' := by
  have hnb : n ≤ 9223372036854775807 := hA.2.1
  have HA := Lib.hid hA
  have HB := Lib.hid hB
  clear hA hB
  go_enter Tryd.func14, Tryd.ntmps14
  go_wp2
  go_loopw [5, 6] (fun v i wr => ∃ k : Nat, v = .bool true ∧ i = .int .i64 k ∧ k ≤ n ∧ Drawn0 w wr) (fun _ i _ => n - (intOf i).toNat)
  case atStart => exact ⟨0, by simp, rfl, Nat.zero_le _, Drawn0.refl _⟩
  case round =>
    obtain ⟨k, rfl, rfl, hk, hdr⟩ := hrel
    by_cases hlt : k < n
    · obtain ⟨ad, A0, a0, A1, a1, rfl, x0, x1, x2, x3, x4, -, xg, -, xh⟩ := at_T39 (C_drawn HA.out hdr) (k : Int) (by omega) (by omega)
      obtain ⟨bd, B0, b0, B1, b1, rfl, y0, y1, y2, y3, y4, -, yg, -, yh⟩ := at_T39 (C_drawn HB.out hdr) (k : Int) (by omega) (by omega)
      rw [Int.toNat_natCast] at x0 x1 x2 x3 x4 y0 y1 y2 y3 y4
      obtain ⟨x, hx⟩ : ∃ x, rd_T39 rs (k : Int) = x := ⟨_, rfl⟩
      rw [hx] at x0 x1 x2 x3 x4 y0 y1 y2 y3 y4 xg xh yg yh
      clear hx
      obtain ⟨l0, hl0⟩ : ∃ l0, x.f0.length = l0 := ⟨_, rfl⟩
      obtain ⟨l1, hl1⟩ : ∃ l1, x.f1.length = l1 := ⟨_, rfl⟩
      rw [hl0] at x0 y0 xg yg
      rw [hl1] at x1 y1 xh yh
      have hk0 : (0 : Int) ≤ (k : Int) := by omega
      have hk1 : (k : Int) < (n : Int) := by omega
      have HCC := Lib.hid (fun W (h : Drawn0 wr W) => cells_same A0 a0 B0 b0 x.f0 l0 W (C_drawn xg h) (C_drawn yg h))
      have HII := Lib.hid (fun W (h : Drawn0 wr W) => ints_same A1 a1 B1 b1 x.f1 l1 W (C_drawn xh h) (C_drawn yh h))
      have HDR := Lib.hid hdr
      clear xg yg xh yh hl0 hl1 hdr
      go_wp2
      go_quiet (first | (go_at_call 24; exact quiet_C HCC.out) | (go_at_call 34; exact quiet_C HII.out))
      go_wp2
      go_roundw
      case rel =>
        refine ⟨k + 1, by simp, by go_num, by omega, ?_⟩
        first | exact HDR.out.step _ | (have h := HDR.out; repeat (first | exact h | apply Drawn0.step))
      case measure => simp [intOf]; omega
    · have hkn : k = n := by omega
      subst hkn
      have HDR := Lib.hid hdr
      clear hdr
      go_wp2
      repeat (go_quiet (fail); try go_wp2)
      go_ret
      exact ⟨rfl, HDR.out⟩
end Go.Proofs.YtppjgofjjcdcdaaDoor
