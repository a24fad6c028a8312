/- LayoutWhole holds: whatever the input, the call returns true and the arguments read as they did (the two tables of unicode/utf8 as the text lays them); tied to the program's text. -/
import Derived.Test.YtppjgofjjcdcdaaDoorJG
import Derived.Test.YtppjgofjjcdcdaaDoorJF
import Derived.Laws.EntriesVeiled
import Derived.Laws.BytesArg
import Derived.Laws.BytesString
import Derived.Deep.RegionHeld3
import Derived.Deep.RegionLaw
import Derived.Test.YtppjgofjjcdcdaaDoorJPlaces
import Derived.Lib.ValidLaws
import Derived.Test.YtppjgofjjcdcdaaDoorRows
import Derived.Test.YtppjgofjjcdcdaaDoorTie
import Derived.Test.YtppjgofjjcdcdaaDoorCards
import Derived.ProofKit
import Derived.OpenShut
import Derived.LaidMore
import Derived.Lay
import Derived.SevenTiedAt
import Derived.Carry
import Derived.ChangeOld
import Derived.SizedLaws
set_option linter.unusedVariables false
set_option linter.unusedSimpArgs false
/- copyistkit.Pick, copyistlaw35.fills. -/
namespace Go.Proofs.YtppjgofjjcdcdaaDoor
open PLayoutRows
open Go.RowKit Go.Proofs.YtppjgofjjcdcdaaDoorW.PrintWords
attribute [local go_sem high] eqA78
/-- A number in 0..n-1, selected by x. -/
def pickP (x n : Int) : Int := if x.tmod n < 0 then x.tmod n + n else x.tmod n
theorem pickP_lt (x n : Int) (h : 0 < n) : 0 ≤ pickP x n ∧ pickP x n < n := by
  unfold pickP
  have h1 := Int.tmod_lt_of_pos x h
  have h2 : -n < x.tmod n := by have := Int.lt_tmod_of_pos x h; omega
  split <;> omega
set_option maxRecDepth 100000 in
set_option maxHeartbeats 4000000 in
theorem pick_any (x n : Int) (w : World) (h0 : 0 < n) (h1 : n ≤ 1000000) : Calls Tryd.prog 29 #[.int .i64 x, .int .i64 n] w fun e w' => e = .returned (.int .i64 (pickP x n)) ∧ Below w.heap.size w w' := by
  have hp := pickP_lt x n h0
  have c3b0 : decide (n ≤ 0) = false := by simp; omega
  have c4b0 : (n == 0) = false := by simp; omega
  have c4b1 : (n != 0) = true := by simp; omega
  obtain ⟨m, hm⟩ : ∃ m, x.tmod n = m := ⟨_, rfl⟩
  have hpd : pickP x n = if m < 0 then m + n else m := by unfold pickP; rw [hm]
  have hlo : -n < m := by rw [← hm]; have := Int.lt_tmod_of_pos x h0; omega
  by_cases c5 : m < 0
  · have c5b0 : decide (m < 0) = true := by simp [c5]
    rw [if_pos c5] at hpd
    have hw : wrap64 (m + n) = m + n := IntWalk.wrap64_in _ (by omega)
    rw [hpd]
    clear hp hpd hlo c5
    go_enter Tryd.func29, Tryd.ntmps29
    go_wp2
    go_ret
    exact ⟨by simp [hw], Below.refl _ _⟩
  · have c5b0 : decide (m < 0) = false := by simp; omega
    rw [if_neg c5] at hpd
    rw [hpd]
    clear hp hpd hlo c5
    go_enter Tryd.func29, Tryd.ntmps29
    go_wp2
    go_ret
    exact ⟨by simp [hm], Below.refl _ _⟩
/-- What a row's cell i shows. -/
def wantP (n : Nat) (s : ByteArray) (marked : Bool) (mark : Int) (q : Nat) : Int := if q + 1 = n ∧ marked = true then mark else if q < s.size then bt s (q : Int) else 32
set_option maxRecDepth 100000 in
set_option maxHeartbeats 4000000 in
theorem fills_any (A : Option Addr) (c : Nat) (cs : List Cell) (n : Nat) (hn : cs.length = n) (s : ByteArray) (marked : Bool) (mark : Int) (w : World) (hC : Kd.C k78 w A n cs)
    (hw : ∀ q, q < n → rd_T78 cs (q : Int) = ⟨wantP n s marked mark q, z53⟩) (hs : s.size < n) :
    Calls Tryd.prog 31 #[.slice A n c, .string s, .bool marked, .int .i64 mark] w fun e w' => e = .returned (.bool true) ∧ w = w' := by
  have hnb : n ≤ 9223372036854775807 := hC.2.1
  have HC := Lib.hid hC
  have HW := Lib.hid hw
  have hs' : (s.size : Int) < (n : Int) := by omega
  clear hC hw hn
  go_enter Tryd.func31, Tryd.ntmps31
  go_wp2
  go_loop [9] (fun i => ∃ q : Nat, i = .int .i64 q ∧ q ≤ n) (fun i => n - (intOf i).toNat)
  case atStart => exact ⟨0, rfl, Nat.zero_le _⟩
  case round =>
    obtain ⟨q, rfl, hq⟩ := hrel
    by_cases hlt : q < n
    · obtain ⟨ad, hA, x0, x1, x2, x3, x4, x5⟩ := at_T78 HC.out (q : Int) (by omega) (by omega)
      have hcell := HW.out q hlt
      rw [hcell, Int.toNat_natCast] at x0 x1 x2 x3 x4 x5
      subst hA
      have hq0 : (0 : Int) ≤ (q : Int) := by omega
      have hq1 : (q : Int) < (n : Int) := by omega
      have hwn : wrap64 ((n : Int) - 1) = (n : Int) - 1 := IntWalk.wrap64_in _ (by omega)
      simp only [z53] at x1 x2 x3 x4 x5
      by_cases hm : q + 1 = n ∧ marked = true
      · obtain ⟨h1, rfl⟩ := hm
        have hv : wantP n s true mark q = mark := by unfold wantP; rw [if_pos ⟨h1, rfl⟩]
        simp only [hv] at x0
        have heq : ((q : Int) == (n : Int) - 1) = true := by simp; omega
        clear hcell hv
        have h2 : ¬ q < s.size := by omega
        have q9 : ¬ (q : Int) < (s.size : Int) := by omega
        go_wp2_with (first | (((with_reducible refine wpList_unguard ?_ ?_); (focus rfl))) | (((with_reducible refine wpList_pass ?_ (by kernel_rfl) ?_); (focus rfl))))
        go_round
        case rel => exact ⟨q + 1, by go_num, by omega⟩
        case measure => simp [intOf]; omega
      · by_cases h2 : q < s.size
        · have hv : wantP n s marked mark q = bt s (q : Int) := by unfold wantP; rw [if_neg hm, if_pos h2]
          simp only [hv] at x0
          have heq : ((q : Int) == (n : Int) - 1) = false := by simp; omega
          have hx9 : ((s[q]'h2).toNat : Int) = bt s (q : Int) := by simp [bt, h2]
          have q9 : (q : Int) < (s.size : Int) := by omega
          have hbr := bt_range s (q : Int)
          have hbw : wrap64 (bt s (q : Int)) = bt s (q : Int) := IntWalk.wrap64_in _ (by omega)
          clear hcell hv hm
          go_wp2_with (first | (((with_reducible refine wpList_unguard ?_ ?_); (focus rfl))) | (((with_reducible refine wpList_pass ?_ (by kernel_rfl) ?_); (focus rfl))))
          go_round
          case rel => exact ⟨q + 1, by go_num, by omega⟩
          case measure => simp [intOf]; omega
        · have hv : wantP n s marked mark q = 32 := by unfold wantP; rw [if_neg hm, if_neg h2]
          simp only [hv] at x0
          have q9 : ¬ (q : Int) < (s.size : Int) := by omega
          clear hcell hv
          by_cases h1 : q + 1 = n
          · have hmk : marked = false := by cases marked <;> simp_all
            subst hmk
            have heq : ((q : Int) == (n : Int) - 1) = true := by simp; omega
            clear hm
            go_wp2_with (first | (((with_reducible refine wpList_unguard ?_ ?_); (focus rfl))) | (((with_reducible refine wpList_pass ?_ (by kernel_rfl) ?_); (focus rfl))))
            go_round
            case rel => exact ⟨q + 1, by go_num, by omega⟩
            case measure => simp [intOf]; omega
          · have heq : ((q : Int) == (n : Int) - 1) = false := by simp; omega
            clear hm
            go_wp2_with (first | (((with_reducible refine wpList_unguard ?_ ?_); (focus rfl))) | (((with_reducible refine wpList_pass ?_ (by kernel_rfl) ?_); (focus rfl))))
            go_round
            case rel => exact ⟨q + 1, by go_num, by omega⟩
            case measure => simp [intOf]; omega
    · have hqn : q = n := by omega
      subst hqn
      go_wp2_with (first | (((with_reducible refine wpList_unguard ?_ ?_); (focus rfl))) | (((with_reducible refine wpList_pass ?_ (by kernel_rfl) ?_); (focus rfl))))
      go_ret
      exact ⟨rfl, rfl⟩
end Go.Proofs.YtppjgofjjcdcdaaDoor

/- copyistlaw35.letters. -/
namespace Go.Proofs.YtppjgofjjcdcdaaDoor
open PLayoutRows
open Go.RowKit Go.Proofs.YtppjgofjjcdcdaaDoorW.PrintWords Go.Proofs.YtppjgofjjcdcdaaDoorW.PrintLast
def ltStep (s : List (List Int) × List Int) (x : Int) : List (List Int) × List Int := if 26 ≤ pickP x 29 then (s.1 ++ [s.2], []) else (s.1, s.2 ++ [97 + pickP x 29])
def ltOut (s : List (List Int) × List Int) : List Int := s.1.flatMap (· ++ [10]) ++ s.2
def ltLines (s : List (List Int) × List Int) : List ByteArray := (s.1 ++ [s.2]).map strOfNums
def lettersP (l : List Int) : List (List Int) × List Int := l.foldl ltStep ([], [])
theorem ltOut_feed (s : List (List Int) × List Int) (x : Int) (h : 26 ≤ pickP x 29) : ltOut (ltStep s x) = ltOut s ++ [10] := by
  unfold ltStep; rw [if_pos h]; simp [ltOut]
theorem ltOut_let (s : List (List Int) × List Int) (x : Int) (h : ¬ 26 ≤ pickP x 29) : ltOut (ltStep s x) = ltOut s ++ [97 + pickP x 29] := by
  unfold ltStep; rw [if_neg h]; simp [ltOut]
theorem ltLines_feed (s : List (List Int) × List Int) (x : Int) (h : 26 ≤ pickP x 29) : ltLines (ltStep s x) = ltLines s ++ [⟨#[]⟩] := by
  unfold ltStep; rw [if_pos h]; simp [ltLines]; rfl
theorem strOfNums_snoc (xs : List Int) (c : Int) : strOfNums (xs ++ [c]) = strOfNums xs ++ strOfNums [c] := by
  apply ByteArray.ext
  simp [strOfNums]
theorem ltLines_let (s : List (List Int) × List Int) (x : Int) (h : ¬ 26 ≤ pickP x 29) : ltLines (ltStep s x) = (ltLines s).set s.1.length (strOfNums s.2 ++ strOfNums [97 + pickP x 29]) := by
  unfold ltStep; rw [if_neg h]
  simp only [ltLines, List.map_append, List.map_cons, List.map_nil]
  rw [List.set_append_right _ _ (by simp), List.length_map, Nat.sub_self, strOfNums_snoc]
  rfl
theorem ltLines_len (s : List (List Int) × List Int) : (ltLines s).length = s.1.length + 1 := by simp [ltLines]
theorem lettersP_take (l : List Int) (k : Nat) (h : k < l.length) : lettersP (l.take (k + 1)) = ltStep (lettersP (l.take k)) (l.getD k 0) := by
  unfold lettersP
  rw [List.take_succ_eq_append_getElem h, List.foldl_append]
  simp [h]
theorem lettersP_len (l : List Int) : (ltOut (lettersP l)).length = l.length ∧ (lettersP l).1.length ≤ l.length := by
  have key : ∀ (l : List Int) (s : List (List Int) × List Int), (ltOut (l.foldl ltStep s)).length = (ltOut s).length + l.length ∧ (l.foldl ltStep s).1.length ≤ s.1.length + l.length := by
    intro l
    induction l with
    | nil => intro s; exact ⟨rfl, Nat.le_refl _⟩
    | cons x l ih =>
      intro s
      obtain ⟨a, b⟩ := ih (ltStep s x)
      by_cases h : 26 ≤ pickP x 29
      · rw [ltOut_feed s x h] at a
        have e : (ltStep s x).1.length = s.1.length + 1 := by unfold ltStep; rw [if_pos h]; simp
        rw [List.foldl_cons, List.length_cons, a]
        rw [e] at b
        exact ⟨by simp; omega, by omega⟩
      · rw [ltOut_let s x h] at a
        have e : (ltStep s x).1.length = s.1.length := by unfold ltStep; rw [if_neg h]
        rw [List.foldl_cons, List.length_cons, a]
        rw [e] at b
        exact ⟨by simp; omega, by omega⟩
  have := key l ([], [])
  simpa [ltOut, lettersP] using this
theorem sep_own {W : World} {base : Nat} {vo vl : Value} {xs : List Int} {ls : List ByteArray} (ho : (Kd.int .u8).R 5 W base (fun _ => True) vo xs) (hl : Kd.string.R 9 W base (fun _ => True) vl ls) :
    ∀ k, vo.ownBlock = some k → some k ≠ vl.ownBlock := by
  intro k hk
  obtain ⟨-, -, -, q, hq, cells, hb⟩ := (Kd.R_bound ho).1 k hk
  have hq' : q = 5 := by
    have : q ∈ [5] := hq
    simpa using this
  subst hq'
  exact Kd.R_ne hl hb (by decide)
theorem info_b : (Tryd.prog.info? 5).map (fun i => (i.zero, i.size, i.bytes)) = some (some (.int .u8 0), 1, 1) := by kernel_rfl
theorem info_s : (Tryd.prog.info? 9).map (fun i => (i.zero, i.size, i.bytes)) = some (some (.string ⟨#[]⟩), 1, 16) := by kernel_rfl
/-- What the loop's head holds. -/
structure LtW (l : List Int) (w : World) (k : Nat) (vo vl : Value) (wr : World) : Prop where
  o : (Kd.int .u8).R 5 wr w.heap.size (fun _ => True) vo (ltOut (lettersP (l.take k)))
  s : Kd.string.R 9 wr w.heap.size (fun _ => True) vl (ltLines (lettersP (l.take k)))
  fr : Below w.heap.size w wr
theorem lt_start (w : World) : Kd.string.R 9 (w.alloc (.cells #[.string ⟨#[]⟩] 9)) w.heap.size (fun _ => True) (.slice (some ⟨w.heap.size, 0, none⟩) 1 1) [⟨#[]⟩] :=
  Kd.R_of_own (own_lit_of (enc := Value.string) w w.heap.size 9 [⟨#[]⟩] (Nat.le_refl _) (by simp)) (fun _ _ => trivial)
theorem store_step {P : Program} {ops : Array Oper} {o : Oper} {a : Act} {Q : Exit → Act → World → Prop} {Kc : Act → World → Prop} {W w1 : World} (hw : Region.wanted o (yielded ops a.tmps) = true) (hN : o.dst = none) (hrun : (execOp a.eval o).run P W = .ok .skip w1) (h : Kc a w1) :
    if Region.wanted o (yielded ops a.tmps) = true then Oper.wp P o a W Kc Q else Kc (a.put none undef) W := by
  rw [if_pos hw]
  unfold Oper.wp
  rw [hrun]
  show Kc (a.put o.dst undef) w1
  rw [hN]
  exact h
set_option maxRecDepth 100000 in
set_option maxHeartbeats 8000000 in
theorem letters_any (A : Option Addr) (c : Nat) (l : List Int) (n : Nat) (hn : l.length = n) (w : World) (hC : Kd.C (Kd.int .i64) w A n l) (hl : n ≤ 1000000) :
    Calls Tryd.prog 28 #[.slice A n c] w fun e w' => ∃ B d, e = .returned (.tuple #[.string (strOfNums (ltOut (lettersP l))), .slice B (ltLines (lettersP l)).length d]) ∧ (ltLines (lettersP l)).length ≤ d ∧
      Kd.C Kd.string w' B (ltLines (lettersP l)).length (ltLines (lettersP l)) ∧ Below w.heap.size w w' := by
  have HC := Lib.hid hC
  have HN := Lib.hid hn
  clear hC hn
  go_enter Tryd.func28, Tryd.ntmps28
  go_wp2
  go_loopw [4, 5, 6] (fun vo vl i wr => ∃ k : Nat, k ≤ n ∧ i = .int .i64 k ∧ LtW l w k vo vl wr) (fun _ _ i _ => n - (intOf i).toNat)
  case atStart => exact ⟨0, Nat.zero_le _, rfl, Kd.R_nil _ _ _ _ _, lt_start w, below_alloc (Below.refl _ _) _⟩
  case round =>
    obtain ⟨k, hk, rfl, hS⟩ := hrel
    obtain ⟨vo, rfl⟩ : ∃ vo, vo = u4 := ⟨_, rfl⟩
    obtain ⟨vl, rfl⟩ : ∃ vl, vl = u5 := ⟨_, rfl⟩
    have HS := Lib.hid hS
    clear hS
    by_cases hlt : k < n
    · have hkl : k < l.length := by have := HN.out; omega
      obtain ⟨ad, hA, hx⟩ := at_int (Kd.C_below HC.out HS.out.fr) k hlt
      obtain ⟨x, hxx⟩ : ∃ x, l.getD k 0 = x := ⟨_, rfl⟩
      rw [hxx] at hx
      have hst := lettersP_take l k hkl
      rw [hxx] at hst
      have HST := Lib.hid hst
      have hk0 : (0 : Int) ≤ (k : Int) := by omega
      have hk1 : (k : Int) < (n : Int) := by omega
      subst hA
      clear hst hxx
      obtain ⟨s, hs⟩ : ∃ s, lettersP (l.take k) = s := ⟨_, rfl⟩
      have hlen := lettersP_len (l.take k)
      rw [hs] at hlen
      have htk : (l.take k).length ≤ k := List.length_take_le _ _
      obtain ⟨hO, hL, hF⟩ := HS.out
      rw [hs] at hO hL HST
      have HO := Lib.hid hO
      have HL := Lib.hid hL
      have HF := Lib.hid hF
      clear hO hL hF hs HS
      have hpl := pickP_lt x 29 (by omega)
      have HPK := Lib.hid (fun (W : World) => pick_any x 29 W (by omega) (by omega))
      obtain ⟨p, hp⟩ : ∃ p, pickP x 29 = p := ⟨_, rfl⟩
      rw [hp] at hpl
      simp only [hp] at HPK
      have HP := Lib.hid hp
      clear hp
      by_cases h26 : 26 ≤ p
      · have e1 := ltOut_feed s x (by rw [HP.out]; exact h26)
        have e2 := ltLines_feed s x (by rw [HP.out]; exact h26)
        have E1 := Lib.hid e1
        have E2 := Lib.hid e2
        clear e1 e2
        go_wp2_with (first | (go_at_call 29; refine (HPK.out _).mono ?_; rintro e w2 ⟨rfl, hb2⟩; have HO2 := Lib.hid (Kd.R_below HO.out hb2); have HL2 := Lib.hid (Kd.R_below HL.out hb2); have hF2 := HF.out.trans (hb2.mono (b_size HF.out)); have hsz2 := b_size hF2; have HF2 := Lib.hid hF2; clear hb2 hF2) | (at_builtin; refine Kd.R_append (Kd.int .u8) (w0 := w) w.heap.size rfl (.tmp 22) (.tmp 23) 87 5 (.int .u8 0) 1 rfl Tryd.underlying87 info_b rfl (by decide) (by omega) vo (ltOut s) 10 [.int .u8 10] (fun _ => True) (fun _ => False) rfl rfl rfl (fun _ hk => hk.elim) (fun _ _ => trivial) HO2.out HF2.out hsz2 (by omega) ?_; intro v1 w1 hO1 hB1 hg1 _; have HO1 := Lib.hid hO1; have HB1 := Lib.hid hB1; have HL1 := Lib.hid (Kd.R_grown2 HL2.out rfl hg1 (sep_own HO2.out HL2.out)); have hsz1 := b_size hB1; clear hO1 hB1 hg1) | (at_builtin; refine Kd.R_append Kd.string (w0 := w) w.heap.size rfl (.tmp 25) (.tmp 26) 48 9 (.string ⟨#[]⟩) 16 rfl Tryd.underlying48 info_s rfl (by decide) (by omega) vl (ltLines s) ⟨#[]⟩ [.string ⟨#[]⟩] (fun _ => True) (fun _ => False) rfl rfl rfl (fun _ hk => hk.elim) (fun _ _ => trivial) HL1.out HB1.out hsz1 (by rw [ltLines_len]; omega) ?_; intro v2 w3 hO3 hB3 hg3 _; have HL3 := Lib.hid hO3; have HB3 := Lib.hid hB3; have HO3 := Lib.hid (Kd.R_grown2 HO1.out rfl hg3 (fun k hk e => sep_own HO1.out HL1.out k e.symm hk.symm)); clear hO3 hB3 hg3))
        go_roundw
        case rel => exact ⟨k + 1, by omega, by go_num, by rw [HST.out, E1.out]; exact HO3.out, by rw [HST.out, E2.out]; exact HL3.out, HB3.out⟩
        case measure => simp [intOf]; omega
      · have e1 := ltOut_let s x (by rw [HP.out]; exact h26)
        have e2 := ltLines_let s x (by rw [HP.out]; exact h26)
        rw [HP.out] at e1 e2
        have E1 := Lib.hid e1
        have E2 := Lib.hid e2
        have hu8 : IntKind.u8.wrap (97 + p) = 97 + p := IntWalk.u8_in _ (by omega)
        have h26' : p < 26 := by omega
        clear e1 e2
        go_wp2_with (first | (go_at_call 29; refine (HPK.out _).mono ?_; rintro e w2 ⟨rfl, hb2⟩; have HO2 := Lib.hid (Kd.R_below HO.out hb2); have HL2 := Lib.hid (Kd.R_below HL.out hb2); have hF2 := HF.out.trans (hb2.mono (b_size HF.out)); have hsz2 := b_size hF2; have HF2 := Lib.hid hF2; clear hb2 hF2) | (at_builtin; refine Kd.R_append (Kd.int .u8) (w0 := w) w.heap.size rfl (.tmp 28) (.tmp 32) 87 5 (.int .u8 0) 1 rfl Tryd.underlying87 info_b rfl (by decide) (by omega) vo (ltOut s) (97 + p) [.int .u8 (97 + p)] (fun _ => True) (fun _ => False) rfl rfl rfl (fun _ hk => hk.elim) (fun _ _ => trivial) HO2.out HF2.out hsz2 (by omega) ?_; intro v1 w1 hO1 hB1 hg1 _; have HO1 := Lib.hid hO1; have HB1 := Lib.hid hB1; have HL1 := Lib.hid (Kd.R_grown2 HL2.out rfl hg1 (sep_own HO2.out HL2.out)); have hsz1 := b_size hB1; clear hO1 hB1 hg1))
        obtain ⟨g, cap, hvl, hg1, hg2, -⟩ := Kd.R_form HL1.out (by rw [ltLines_len]; omega)
        rw [ltLines_len] at hvl
        subst hvl
        obtain ⟨hcl, hfr⟩ := Kd.R_celln ByteArray.empty HL1.out (s.1.length : Int) (by omega) (by omega)
        obtain ⟨m, hm⟩ : ∃ m, s.1.length = m := ⟨_, rfl⟩
        have hrd : rdOf ByteArray.empty (ltLines s) (s.1.length : Int) = strOfNums s.2 := by simp [rdOf, ltLines]
        rw [hrd, Int.toNat_natCast] at hcl
        rw [Int.toNat_natCast] at hfr
        rw [hm] at hcl hfr ⊢
        have HM := Lib.hid hm
        obtain ⟨Ls, hLs⟩ : ∃ Ls, strOfNums s.2 = Ls := ⟨_, rfl⟩
        rw [hLs] at hcl
        have HLS := Lib.hid hLs
        have hmm : wrap64 (((m + 1 : Nat) : Int) - 1) = (m : Int) := by rw [IntWalk.wrap64_in _ (by omega)]; omega
        have hmm2 : wrap64 (m : Int) = (m : Int) := IntWalk.wrap64_in _ (by omega)
        have hp64 : wrap64 (97 + p) = 97 + p := IntWalk.wrap64_in _ (by omega)
        have hm0 : (0 : Int) ≤ (m : Int) := Int.natCast_nonneg m
        have hm2 : (m : Int) < (m : Int) + 1 := Int.lt_succ _
        have hm1 : (m : Int) < ((m + 1 : Nat) : Int) := Int.lt_succ _
        have hls2 : ¬ 9223372036854775807 < Ls.size + (strOfNums [97 + p]).size := by rw [← HLS.out, strOfNums_size, strOfNums_size]; have h1 : s.2.length ≤ (ltOut s).length := (by simp [ltOut]); have h2 := hlen.1; simp only [List.length_cons, List.length_nil]; omega
        clear hrd hm hLs hlen
        refine start_ (n := 18) (S := fun w' => w'.cell? ⟨g, m, none⟩ = some (.string Ls)) (ds := [17]) #[false, false, false, false, false, false, false, false, false, false, false, false, false, false, false, false, false, false] (by kernel_rfl) rfl rfl hcl (fun hHeld => ?_)
        obtain ⟨W, hW⟩ : ∃ W, w1.drew = W := ⟨_, rfl⟩
        rw [hW] at hHeld ⊢
        refine pure_ (i := 0) (N := some 34) (v := ?_) (a' := ?_) #[true, false, false, false, false, false, false, false, false, false, false, false, false, false, false, false, false, false] rfl rfl (by kernel_rfl) (fun _ _ _ h => h) (Or.inl ⟨by rfl, ?_⟩) ?_ ?_
        rotate_left
        · intro w'
          go_simp
          with_reducible rfl
        rotate_left
        · simp only [Act.put, List.setIfInBounds_toArray, List.set_cons_zero, List.set_cons_succ, i64_w, i32_w]
          rfl
        refine pure_ (i := 1) (N := some 35) (v := ?_) (a' := ?_) #[true, true, false, false, false, false, false, false, false, false, false, false, false, false, false, false, false, false] rfl rfl (by kernel_rfl) (fun _ _ _ h => h) (Or.inl ⟨by rfl, ?_⟩) ?_ ?_
        rotate_left
        · intro w'
          go_simp
          with_reducible rfl
        rotate_left
        · simp only [Act.put, List.setIfInBounds_toArray, List.set_cons_zero, List.set_cons_succ, i64_w, i32_w]
          rfl
        refine pure_ (i := 2) (N := some 36) (v := ?_) (a' := ?_) #[true, true, true, false, false, false, false, false, false, false, false, false, false, false, false, false, false, false] rfl rfl (by kernel_rfl) (fun _ _ _ h => h) (Or.inl ⟨by rfl, ?_⟩) ?_ ?_
        rotate_left
        · intro w'
          go_simp
          with_reducible rfl
        rotate_left
        · simp only [Act.put, List.setIfInBounds_toArray, List.set_cons_zero, List.set_cons_succ, i64_w, i32_w]
          rfl
        refine pure_ (i := 3) (N := some 37) (v := ?_) (a' := ?_) #[true, true, true, true, false, false, false, false, false, false, false, false, false, false, false, false, false, false] rfl rfl (by kernel_rfl) (fun _ _ _ h => h) (Or.inl ⟨by rfl, ?_⟩) ?_ ?_
        rotate_left
        · intro w'
          go_simp
          with_reducible rfl
        rotate_left
        · simp only [Act.put, List.setIfInBounds_toArray, List.set_cons_zero, List.set_cons_succ, i64_w, i32_w]
          rfl
        refine pure_ (i := 4) (N := some 38) (v := ?_) (a' := ?_) #[true, true, true, true, true, false, false, false, false, false, false, false, false, false, false, false, false, false] rfl rfl (by kernel_rfl) (fun _ _ _ h => h) (Or.inl ⟨by rfl, ?_⟩) ?_ ?_
        rotate_left
        · intro w'
          go_simp
          with_reducible rfl
        rotate_left
        · simp only [Act.put, List.setIfInBounds_toArray, List.set_cons_zero, List.set_cons_succ, i64_w, i32_w]
          rfl
        refine pure_ (i := 5) (N := some 39) (v := ?_) (a' := ?_) #[true, true, true, true, true, true, false, false, false, false, false, false, false, false, false, false, false, false] rfl rfl (by kernel_rfl) (fun _ _ _ h => h) (Or.inl ⟨by rfl, ?_⟩) ?_ ?_
        rotate_left
        · intro w'
          go_simp
          with_reducible rfl
        rotate_left
        · simp only [Act.put, List.setIfInBounds_toArray, List.set_cons_zero, List.set_cons_succ, i64_w, i32_w]
          rfl
        refine pure_ (i := 6) (N := some 40) (v := ?_) (a' := ?_) #[true, true, true, true, true, true, true, false, false, false, false, false, false, false, false, false, false, false] rfl rfl (by kernel_rfl) (fun _ _ _ h => h) (Or.inl ⟨by rfl, ?_⟩) ?_ ?_
        rotate_left
        · intro w'
          go_simp
          with_reducible rfl
        rotate_left
        · simp only [Act.put, List.setIfInBounds_toArray, List.set_cons_zero, List.set_cons_succ, i64_w, i32_w]
          rfl
        refine pure_ (i := 7) (N := some 41) (v := ?_) (a' := ?_) #[true, true, true, true, true, true, true, true, false, false, false, false, false, false, false, false, false, false] rfl rfl (by kernel_rfl) (fun _ _ _ h => h) (Or.inl ⟨by rfl, ?_⟩) ?_ ?_
        rotate_left
        · intro w'
          go_simp
          with_reducible rfl
        rotate_left
        · simp only [Act.put, List.setIfInBounds_toArray, List.set_cons_zero, List.set_cons_succ, i64_w, i32_w]
          rfl
        refine pure_ (i := 8) (N := some 42) (v := ?_) (a' := ?_) #[true, true, true, true, true, true, true, true, true, false, false, false, false, false, false, false, false, false] rfl rfl (by kernel_rfl) (fun _ _ _ h => h) (Or.inl ⟨by rfl, ?_⟩) ?_ ?_
        rotate_left
        · intro w'
          go_simp
          with_reducible rfl
        rotate_left
        · simp only [Act.put, List.setIfInBounds_toArray, List.set_cons_zero, List.set_cons_succ, i64_w, i32_w]
          rfl
        refine take_ (i := 9) (N := some 43) (v := ?_) (a' := ?_) #[true, true, true, true, true, true, true, true, true, true, false, false, false, false, false, false, false, false] rfl rfl (by kernel_rfl) (fun _ _ _ h => h) (Or.inl ⟨by rfl, ?_⟩) hHeld ?_ ?_
        rotate_left
        · intro w' s0
          go_simp
          with_reducible rfl
        rotate_left
        · simp only [Act.put, List.setIfInBounds_toArray, List.set_cons_zero, List.set_cons_succ, i64_w, i32_w]
          rfl
        refine pure_ (i := 10) (N := some 44) (v := ?_) (a' := ?_) #[true, true, true, true, true, true, true, true, true, true, true, false, false, false, false, false, false, false] rfl rfl (by kernel_rfl) (fun _ _ _ h => h) (Or.inl ⟨by rfl, ?_⟩) ?_ ?_
        rotate_left
        · intro w'
          go_simp
          with_reducible rfl
        rotate_left
        · simp only [Act.put, List.setIfInBounds_toArray, List.set_cons_zero, List.set_cons_succ, i64_w, i32_w]
          rfl
        refine pure_ (i := 11) (N := some 45) (v := ?_) (a' := ?_) #[true, true, true, true, true, true, true, true, true, true, true, true, false, false, false, false, false, false] rfl rfl (by kernel_rfl) (fun _ _ _ h => h) (Or.inl ⟨by rfl, ?_⟩) ?_ ?_
        rotate_left
        · intro w'
          go_simp
          with_reducible rfl
        rotate_left
        · simp only [Act.put, List.setIfInBounds_toArray, List.set_cons_zero, List.set_cons_succ, i64_w, i32_w]
          rfl
        refine pure_ (i := 12) (N := some 46) (v := ?_) (a' := ?_) #[true, true, true, true, true, true, true, true, true, true, true, true, true, false, false, false, false, false] rfl rfl (by kernel_rfl) (fun _ _ _ h => h) (Or.inl ⟨by rfl, ?_⟩) ?_ ?_
        rotate_left
        · intro w'
          go_simp
          with_reducible rfl
        rotate_left
        · simp only [Act.put, List.setIfInBounds_toArray, List.set_cons_zero, List.set_cons_succ, i64_w, i32_w]
          rfl
        refine one_ (i := 13) (N := some 47) #[true, true, true, true, true, true, true, true, true, true, true, true, true, true, false, false, false, false] rfl rfl (by kernel_rfl) (by decide) (fun K hK => ?_)
        refine event_step (v := .slice (some ⟨W.heap.size, 0, none⟩) 1 1) (w1 := W.alloc (.cells #[.int .u8 (97 + p)] 5)) (by rfl) ?_ ?_
        · go_simp
          try with_reducible rfl
        refine hK.out _ _ (cell_later (below_alloc (Below.refl _ _) _) hHeld) (fun hHeld => ?_)
        clear hK K
        refine norm_ (a' := ?_) ?_ ?_
        rotate_left
        · show Act.put _ (some 47) _ = _
          simp only [Act.put, List.setIfInBounds_toArray, List.set_cons_zero, List.set_cons_succ, i64_w, i32_w]
          rfl
        have hcv : (convert 87 9 (.slice (some ⟨W.heap.size, 0, none⟩) 1 1)).run Tryd.prog (W.alloc (.cells #[.int .u8 (97 + p)] 5)) = .ok (.string (strOfNums [97 + p])) (W.alloc (.cells #[.int .u8 (97 + p)] 5)) := run_convert_bytes_arg _ 87 5 Tryd.underlying87 Tryd.underlying5 _ 0 1 1 [97 + p] rfl (by intro i hi; have h0 : i = 0 := (by omega); subst h0; exact cell_row (World.alloc_heap_new W _) rfl) _ Tryd.underlying9
        have hfr5 : (W.alloc (.cells #[.int .u8 (97 + p)] 5)).frozen? ⟨g, m, none⟩ = false := (Kd.R_celln ByteArray.empty (Kd.R_below HL1.out (by rw [← hW]; exact below_alloc (below_drew (Below.refl _ _)) _)) (m : Int) (Int.natCast_nonneg m) (by rw [HM.out]; exact Int.lt_succ _)).2
        have hb5 : Below w1.heap.size w1 (W.alloc (.cells #[.int .u8 (97 + p)] 5)) := by rw [← hW]; exact below_alloc (below_drew (Below.refl _ _)) _
        obtain ⟨wsz, hwsz⟩ : ∃ wsz, W.heap.size = wsz := ⟨_, rfl⟩
        rw [hwsz] at hcv ⊢
        obtain ⟨W5, hW5⟩ : ∃ W5, W.alloc (.cells #[.int .u8 (97 + p)] 5) = W5 := ⟨_, rfl⟩
        rw [hW5] at hHeld hcv hfr5 hb5 ⊢
        refine one_ (i := 14) (N := some 48) #[true, true, true, true, true, true, true, true, true, true, true, true, true, true, true, false, false, false] rfl rfl (by kernel_rfl) (by decide) (fun K hK => ?_)
        refine event_step (v := .string (strOfNums [97 + p])) (w1 := W5) (by rfl) ?_ ?_
        · go_simp
          try with_reducible rfl
        refine hK.out _ _ hHeld (fun hHeld => ?_)
        clear hK K
        refine norm_ (a' := ?_) ?_ ?_
        rotate_left
        · show Act.put _ (some 48) _ = _
          simp only [Act.put, List.setIfInBounds_toArray, List.set_cons_zero, List.set_cons_succ, i64_w, i32_w]
          rfl
        refine pure_ (i := 15) (N := some 49) (v := ?_) (a' := ?_) #[true, true, true, true, true, true, true, true, true, true, true, true, true, true, true, true, false, false] rfl rfl (by kernel_rfl) (fun _ _ _ h => h) (Or.inl ⟨by rfl, ?_⟩) ?_ ?_
        rotate_left
        · intro w'
          go_simp
          with_reducible rfl
        rotate_left
        · simp only [Act.put, List.setIfInBounds_toArray, List.set_cons_zero, List.set_cons_succ, i64_w, i32_w]
          rfl
        refine pure_ (i := 16) (N := some 50) (v := ?_) (a' := ?_) #[true, true, true, true, true, true, true, true, true, true, true, true, true, true, true, true, true, false] rfl rfl (by kernel_rfl) (fun _ _ _ h => h) (Or.inl ⟨by rfl, ?_⟩) ?_ ?_
        rotate_left
        · intro w'
          go_simp
          with_reducible rfl
        rotate_left
        · simp only [Act.put, List.setIfInBounds_toArray, List.set_cons_zero, List.set_cons_succ, i64_w, i32_w]
          rfl
        refine last_ (i := 17) (N := none) #[true, true, true, true, true, true, true, true, true, true, true, true, true, true, true, true, true, true] rfl rfl (by kernel_rfl) (by decide) (fun K hK => ?_)
        refine store_step (w1 := W5.setCell ⟨g, m, none⟩ (.string (Ls ++ strOfNums [97 + p]))) (by rfl) rfl ?_ ?_
        · go_simp
          try with_reducible rfl
        refine hK.out _ _ (done_ (by kernel_rfl) ?_)
        clear hK K
        have HL5 := Lib.hid (Kd.R_below HL1.out hb5)
        have HO5 := Lib.hid (Kd.R_below HO1.out hb5)
        have hp6 := Kd.R_putg HL5.out (m : Int) (Ls ++ strOfNums [97 + p])
        rw [Int.toNat_natCast] at hp6
        have HL6 := Lib.hid hp6.1
        have HO6 := Lib.hid (Kd.R_grown2 HO5.out rfl hp6.2 (fun k hk e => by cases hk; exact sep_own HO5.out HL5.out g e.symm rfl))
        have HF6 := Lib.hid (below_set (j := m) (v := .string (Ls ++ strOfNums [97 + p])) (HB1.out.trans (hb5.mono hsz1)) hg1)
        clear hp6 hHeld hcv hfr5 hb5
        go_wp2
        go_roundw
        case rel => exact ⟨k + 1, by omega, by go_num, by rw [HST.out, E1.out]; exact HO6.out, by rw [HST.out, E2.out, HM.out, HLS.out]; have h := HL6.out; rw [HM.out] at h; exact h, HF6.out⟩
        case measure => simp [intOf]; omega
    · have hkn : k = n := by omega
      subst hkn
      obtain ⟨hO, hL, hF⟩ := HS.out
      rw [List.take_of_length_le (by rw [HN.out]; exact Nat.le_refl _)] at hO hL
      obtain ⟨A', c', rfl, hc', hCr⟩ := Kd.R_reads hO
      obtain ⟨B', d', rfl, hd', hCl⟩ := Kd.R_reads hL
      obtain ⟨out, hout⟩ : ∃ out, ltOut (lettersP l) = out := ⟨_, rfl⟩
      obtain ⟨ls, hls⟩ : ∃ ls, ltLines (lettersP l) = ls := ⟨_, rfl⟩
      rw [hout] at hCr ⊢
      rw [hls] at hCl hd' ⊢
      have HOUT := Lib.hid hout
      have HLS := Lib.hid hls
      rw [hout] at hO
      have hA : (A' = none ∧ out.length = 0) ∨ ∃ g, A' = some ⟨g, 0, none⟩ := by
        obtain ⟨inner, ho⟩ := Kd.R_own hO
        rcases ho.2 with ⟨hv, _⟩ | ⟨g, cap', cur, hv, _⟩
        · injection hv with h1 h2 h3
          exact .inl ⟨h1, h2⟩
        · injection hv with h1 h2 h3
          exact .inr ⟨g, h1⟩
      have hcv : (convert 87 9 (.slice A' out.length c')).run Tryd.prog wr = .ok (.string (strOfNums out)) wr := by
        rcases hA with ⟨rfl, h0⟩ | ⟨g, rfl⟩
        · rw [List.length_eq_zero_iff.1 h0]
          exact run_convert_bytes_nil _ 87 5 Tryd.underlying87 Tryd.underlying5 _ _ _ Tryd.underlying9
        · refine run_convert_bytes_arg _ 87 5 Tryd.underlying87 Tryd.underlying5 g 0 out.length c' out rfl (fun i hi => ?_) _ Tryd.underlying9
          have h1 := (Kd.R_celln (0 : Int) hO (i : Int) (by omega) (by omega)).1
          rw [Int.toNat_natCast] at h1
          rw [Nat.zero_add, h1]
          simp [rdOf]
      have HL := Lib.hid hCl
      have HF := Lib.hid hF
      clear hO hL hCr hCl hF HS hA
      go_wp2
      go_ret2
      rw [HOUT.out, HLS.out]
      exact ⟨B', d', rfl, hd', HL.out, HF.out⟩
end Go.Proofs.YtppjgofjjcdcdaaDoor

/- The plain law of LayoutWhole: the rows of a text of letters and line feeds, line by line. -/
namespace Go.Proofs.YtppjgofjjcdcdaaDoor
open PLayoutRows
open Go.RowKit Go.Proofs.YtppjgofjjcdcdaaDoorW.PrintWords
/-- A byte of such a text. -/
def Ltr (c : Int) : Prop := c = 10 ∨ (97 ≤ c ∧ c ≤ 122)
theorem Ltr.lo {c : Int} (h : Ltr c) : 0 ≤ c ∧ c < 128 := by unfold Ltr at h; omega
theorem str_at (bs : List Int) (hb : ∀ c ∈ bs, Ltr c) (i : Nat) (h : i < (strOfNums bs).size) : (((strOfNums bs)[i]'h).toNat : Int) = bs.getD i 0 ∧ ((strOfNums bs)[i]'h).toNat < 128 := by
  have hl : i < bs.length := by rw [strOfNums_size] at h; exact h
  have he : (strOfNums bs)[i]'h = UInt8.ofNat (bs[i]'hl).toNat := by
    have e : (strOfNums bs)[i]'h = (strOfNums bs).data[i]'h := rfl
    rw [e]
    simp [strOfNums]
  have hr := (hb _ (List.getElem_mem hl)).lo
  have h2 : (UInt8.ofNat (bs[i]'hl).toNat).toNat = (bs[i]'hl).toNat := by rw [UInt8.toNat_ofNat']; omega
  rw [he, h2]
  have h3 : bs.getD i 0 = bs[i]'hl := by simp [hl]
  rw [h3]
  omega
theorem runesFrom_ltr (bs : List Int) (hb : ∀ c ∈ bs, Ltr c) : ∀ n k, bs.length ≤ n + k → runesFrom (strOfNums bs) n k = bs.drop k
  | 0, k, h => by rw [List.drop_of_length_le (by omega)]; rfl
  | n + 1, k, h => by
    unfold runesFrom
    by_cases hk : k < (strOfNums bs).size
    · have hl : k < bs.length := by rw [strOfNums_size] at hk; exact hk
      obtain ⟨h1, h2⟩ := str_at bs hb k hk
      rw [if_pos hk, decode_ascii _ k hk h2, List.drop_eq_getElem_cons hl]
      simp only []
      rw [h1, runesFrom_ltr bs hb n (k + 1) (by omega)]
      simp [hl]
    · rw [if_neg hk, List.drop_of_length_le (by rw [strOfNums_size] at hk; omega)]
theorem runesP_ltr (bs : List Int) (hb : ∀ c ∈ bs, Ltr c) : runesP (strOfNums bs) = bs := by
  unfold runesP
  rw [runesFrom_ltr bs hb _ 0 (by rw [strOfNums_size]; omega)]; rfl
theorem valid_ltr (bs : List Int) (hb : ∀ c ∈ bs, Ltr c) : validP (strOfNums bs) = true := by
  unfold validP
  have h := Lib.validD_ascii (strOfNums bs).data.toList.length (strOfNums bs).data.toList (by
    intro b hm
    rw [List.take_length] at hm
    obtain ⟨i, hi, rfl⟩ := List.mem_iff_getElem.1 hm
    have hi2 : i < (strOfNums bs).size := by rw [strOfNums_size]; rw [strOfNums_data, List.length_map] at hi; exact hi
    have := (str_at bs hb i hi2).2
    rw [Array.getElem_toList]
    exact this)
  rw [h, List.drop_length]
  rfl
theorem count_ltr (bs : List Int) (hb : ∀ c ∈ bs, Ltr c) : Lib.runeCount (strOfNums bs) = bs.length := by
  rw [Lib.runeCount_ascii _ (fun j h => (str_at bs hb j h).2), strOfNums_size]
/-- A part of the buffer's own text. -/
def ownPart (bs : List Int) : Part := ⟨0, 1, 1 + bs.length, strOfNums bs, z53⟩
theorem check_ltr (bs : List Int) (hb : ∀ c ∈ bs, Ltr c) (hl : bs.length ≤ 60000) : checkP [ownPart bs] 1 ((bs.length : Int) + 1) = 0 := by
  have h1 : checkP1 (ownPart bs) 1 ((bs.length : Int) + 1) 1 = 0 := by
    unfold checkP1 ownPart
    simp only [valid_ltr bs hb, count_ltr bs hb]
    rw [if_neg (by rintro (h | h | h); exact absurd h (by decide); exact absurd h (by decide); cases h), if_neg (by omega), if_neg (by omega), if_neg (by omega), if_neg (by omega)]
  unfold checkP
  rw [if_neg (by omega)]
  unfold checkL
  rw [if_pos h1]
  rfl
theorem wid_ltr (c : Int) (h : 97 ≤ c ∧ c ≤ 122) : cellsP c z53 = [⟨c, z53⟩] := by
  have hw : ∀ k : Fin 26, widthP (97 + (k.val : Int)) = 1 := by decide +kernel
  have h1 := hw ⟨(c - 97).toNat, by omega⟩
  have e : (97 : Int) + (((c - 97).toNat : Nat) : Int) = c := by omega
  rw [e] at h1
  unfold cellsP
  have hc : ctl c = false := by unfold ctl; simp; omega
  rw [if_neg (by rw [hc]; simp), if_neg (by rw [h1]; decide), if_neg (by rw [h1]; decide)]
/-- What a unit shows. -/
def unitOf (c : Int) : List Cell × Bool := if c = 10 then ([], true) else ([⟨c, z53⟩], false)
theorem units_ltr (tab : Int) : ∀ (xs : List Chr) (u : List Unt × Int), (∀ x ∈ xs, Ltr x.c ∧ x.look = z53) →
    (xs.foldl (fun u x => (u.1 ++ (oneU tab u.2 x).1, (oneU tab u.2 x).2)) u).1.map (fun v => (v.cells, v.feed)) = u.1.map (fun v => (v.cells, v.feed)) ++ xs.map (fun x => unitOf x.c)
  | [], u, _ => by simp
  | x :: xs, u, h => by
    rw [List.foldl_cons, units_ltr tab xs _ (fun y hy => h y (by simp [hy]))]
    obtain ⟨hc, hlk⟩ := h x (by simp)
    have e : (oneU tab u.2 x).1.map (fun v => (v.cells, v.feed)) = [unitOf x.c] := by
      unfold oneU unitOf
      by_cases h10 : x.c = 10
      · rw [if_pos h10, if_pos h10]; rfl
      · have hr : 97 ≤ x.c ∧ x.c ≤ 122 := by rcases hc with h | h; exact absurd h h10; exact h
        rw [if_neg h10, if_neg h10, if_neg (by omega), hlk, wid_ltr x.c hr, if_neg (by simp)]
        rfl
    simp [e]
theorem charsFrom_ltr (look : Look) : ∀ (cs : List Int) (pos : Int), (charsFrom 0 look pos cs).map (·.c) = cs ∧ ∀ x ∈ charsFrom 0 look pos cs, x.look = look
  | [], pos => by simp [charsFrom]
  | c :: cs, pos => by
    obtain ⟨h1, h2⟩ := charsFrom_ltr look cs (pos + 1)
    refine ⟨by simp [charsFrom, h1], ?_⟩
    intro x hx
    simp only [charsFrom, if_pos, List.mem_cons] at hx
    rcases hx with rfl | hx
    · rfl
    · exact h2 x hx
theorem units_own (tab : Int) (bs : List Int) (hb : ∀ c ∈ bs, Ltr c) : (unitsC tab (charsP [ownPart bs])).1.map (fun v => (v.cells, v.feed)) = bs.map unitOf := by
  have e : charsP [ownPart bs] = charsFrom 0 z53 1 bs := by
    have : charsP [ownPart bs] = partChars (ownPart bs) := by simp [charsP]
    rw [this]
    unfold partChars ownPart
    simp only [runesP_ltr bs hb]
  obtain ⟨h1, h2⟩ := charsFrom_ltr z53 bs 1
  unfold unitsC
  rw [e, units_ltr tab _ _ (fun x hx => ⟨hb _ (by rw [← h1]; exact List.mem_map_of_mem hx), h2 x hx⟩)]
  have h3 : (charsFrom 0 z53 1 bs).map (fun x => unitOf x.c) = ((charsFrom 0 z53 1 bs).map (·.c)).map unitOf := by rw [List.map_map]; rfl
  rw [h3, h1]
  rfl
/-- A row's cells: letters, then blanks. -/
def lineC (width : Nat) (ws : List Int) : List Cell := ws.map (fun c => ⟨c, z53⟩) ++ List.replicate (width - ws.length) ⟨32, z53⟩
def markC (width : Nat) (ws : List Int) (mark : Int) : List Cell := (lineC width ws).set (width - 1) ⟨mark, z53⟩
/-- The chunks of a line: the full ones, and the last one. -/
def chStep (m : Nat) (s : List (List Int) × List Int) (c : Int) : List (List Int) × List Int := if s.2.length + 1 ≤ m then (s.1, s.2 ++ [c]) else (s.1 ++ [s.2], [c])
def chunks (m : Nat) (ws : List Int) : List (List Int) × List Int := ws.foldl (chStep m) ([], [])
theorem chunks_snoc (m : Nat) (ws : List Int) (c : Int) : chunks m (ws ++ [c]) = chStep m (chunks m ws) c := by simp [chunks]
/-- The lines of a text. -/
def spStep (s : List (List Int) × List Int) (c : Int) : List (List Int) × List Int := if c = 10 then (s.1 ++ [s.2], []) else (s.1, s.2 ++ [c])
def splitB (bs : List Int) : List (List Int) × List Int := bs.foldl spStep ([], [])
theorem splitB_snoc (bs : List Int) (c : Int) : splitB (bs ++ [c]) = spStep (splitB bs) c := by simp [splitB]
theorem split_lt : ∀ (l : List Int) (s : List (List Int) × List Int), splitB (ltOut s) = s → splitB (ltOut (l.foldl ltStep s)) = l.foldl ltStep s
  | [], s, h => h
  | x :: l, s, h => by
    rw [List.foldl_cons]
    refine split_lt l _ ?_
    have hp := pickP_lt x 29 (by omega)
    by_cases h26 : 26 ≤ pickP x 29
    · rw [ltOut_feed s x h26, splitB_snoc, h]
      unfold spStep ltStep
      rw [if_pos rfl, if_pos h26]
    · rw [ltOut_let s x h26, splitB_snoc, h]
      unfold spStep ltStep
      rw [if_neg (by omega), if_neg h26]
theorem split_letters (l : List Int) : splitB (ltOut (lettersP l)) = lettersP l := split_lt l _ rfl
theorem ltr_lt : ∀ (l : List Int) (s : List (List Int) × List Int), (∀ c ∈ ltOut s, Ltr c) → ∀ c ∈ ltOut (l.foldl ltStep s), Ltr c
  | [], s, h => h
  | x :: l, s, h => by
    rw [List.foldl_cons]
    refine ltr_lt l _ ?_
    have hp := pickP_lt x 29 (by omega)
    intro c hc
    by_cases h26 : 26 ≤ pickP x 29
    · rw [ltOut_feed s x h26] at hc
      rcases List.mem_append.1 hc with hc | hc
      · exact h c hc
      · rw [List.mem_singleton] at hc; exact .inl hc
    · rw [ltOut_let s x h26] at hc
      rcases List.mem_append.1 hc with hc | hc
      · exact h c hc
      · rw [List.mem_singleton] at hc; exact .inr (by omega)
theorem ltr_letters (l : List Int) : ∀ c ∈ ltOut (lettersP l), Ltr c := ltr_lt l _ (by simp [ltOut])
def prj (r : Row) : List Cell × Bool := (r.f0, r.f4)
def fullRow (width : Nat) (ch : List Int) : List Cell × Bool := (markC width ch 92, true)
def lineRows (width : Nat) (ws : List Int) : List (List Cell × Bool) := (chunks (width - 1) ws).1.map (fullRow width) ++ [(lineC width (chunks (width - 1) ws).2, false)]
def cutRow (width : Nat) (ws : List Int) : List Cell × Bool := (if ws.length ≤ width - 1 then lineC width ws else markC width (ws.take (width - 1)) 36, false)
theorem lineC_len (width : Nat) (ws : List Int) (h : ws.length ≤ width) : (lineC width ws).length = width := by simp [lineC]; omega
theorem lineC_add (width : Nat) (ws : List Int) (c : Int) (h : ws.length < width) : (lineC width ws).set ws.length ⟨c, z53⟩ = lineC width (ws ++ [c]) := by
  unfold lineC
  rw [List.set_append_right _ _ (by simp)]
  obtain ⟨k, hk⟩ : ∃ k, width - ws.length = k + 1 := ⟨width - ws.length - 1, by omega⟩
  have h2 : width - (ws ++ [c]).length = k := by simp; omega
  rw [hk, h2, List.length_map, Nat.sub_self, List.replicate_succ]
  simp
theorem lineC_last (width : Nat) (ws : List Int) (h : ws.length < width) : ((lineC width ws).getD (width - 1) z78).f1 = z53 := by
  unfold lineC
  have : (ws.map (fun c => (⟨c, z53⟩ : Cell)) ++ List.replicate (width - ws.length) ⟨32, z53⟩)[width - 1]? = some ⟨32, z53⟩ := by
    rw [List.getElem?_append_right (by simp; omega), List.getElem?_replicate]
    rw [if_pos (by simp; omega)]
  rw [List.getD_eq_getElem?_getD, this]
  rfl
/-- Wrapped: what holds behind the bytes bs. -/
structure WrI (width : Nat) (bs : List Int) (s : RS) : Prop where
  ov : s.over = false
  n : s.x.n = (chunks (width - 1) (splitB bs).2).2.length
  c : s.x.cells = lineC width (chunks (width - 1) (splitB bs).2).2
  ct : s.x.cont = false
  rows : s.rows.map prj = (splitB bs).1.flatMap (lineRows width) ++ (chunks (width - 1) (splitB bs).2).1.map (fullRow width)
theorem chunks_le (m : Nat) (hm : 1 ≤ m) : ∀ (ws : List Int) (s : List (List Int) × List Int), s.2.length ≤ m → (∀ c ∈ s.1, c.length = m) → (s.1 ≠ [] → s.2 ≠ []) →
    (ws.foldl (chStep m) s).2.length ≤ m ∧ (∀ c ∈ (ws.foldl (chStep m) s).1, c.length = m) ∧ ((ws.foldl (chStep m) s).1 ≠ [] → (ws.foldl (chStep m) s).2 ≠ []) ∧ (ws.foldl (chStep m) s).1.flatten ++ (ws.foldl (chStep m) s).2 = s.1.flatten ++ s.2 ++ ws
  | [], s, h1, h2, h3 => ⟨h1, h2, h3, by simp⟩
  | w :: ws, s, h1, h2, h3 => by
    rw [List.foldl_cons]
    have k1 : (chStep m s w).2.length ≤ m := by unfold chStep; split <;> simp <;> omega
    have k2 : ∀ c ∈ (chStep m s w).1, c.length = m := by
      unfold chStep
      split
      · exact h2
      · intro c hc
        rcases List.mem_append.1 hc with hc | hc
        · exact h2 c hc
        · rw [List.mem_singleton] at hc; rw [hc]; omega
    have k3 : (chStep m s w).1 ≠ [] → (chStep m s w).2 ≠ [] := by unfold chStep; split <;> simp
    have k4 : (chStep m s w).1.flatten ++ (chStep m s w).2 = s.1.flatten ++ s.2 ++ [w] := by unfold chStep; split <;> simp
    obtain ⟨a, b, c, d⟩ := chunks_le m hm ws _ k1 k2 k3
    exact ⟨a, b, c, by rw [d, k4]; simp⟩
theorem chunks_ok (m : Nat) (hm : 1 ≤ m) (ws : List Int) : (chunks m ws).2.length ≤ m ∧ (∀ c ∈ (chunks m ws).1, c.length = m) ∧ ((chunks m ws).1 ≠ [] → (chunks m ws).2 ≠ []) ∧ (chunks m ws).1.flatten ++ (chunks m ws).2 = ws := by
  obtain ⟨a, b, c, d⟩ := chunks_le m hm ws ([], []) (by simp) (by simp) (by simp)
  exact ⟨a, b, c, by unfold chunks; simpa using d⟩
theorem newFil_line (width : Nat) : (newFil width).cells = lineC width [] := by simp [newFil, blankP, blankC, lineC]; exact .inr rfl
theorem put1 (x : Fil) (c : Cell) (pos : Int) : (x.put [c] pos).cells = x.cells.set x.n c ∧ (x.put [c] pos).n = x.n + 1 ∧ (x.put [c] pos).cont = x.cont := by
  have h := at0_same x pos
  refine ⟨?_, ?_, put_cont _ _ _⟩
  · show (x.at0 pos).cells.set (x.at0 pos).n c = _
    rw [h.1, h.2.2]
  · show (x.at0 pos).n + 1 = _
    rw [h.2.2]
theorem mark_line {width : Nat} {ws : List Int} (h : ws.length < width) (x : Fil) (hx : x.cells = lineC width ws) (mark : Int) : (x.mark mark).cells = markC width ws mark := by
  unfold Fil.mark markC
  simp only []
  rw [hx, lineC_len width ws (by omega), lineC_last width ws h]
theorem wr_step {width : Nat} (hw : 4 ≤ width) {bs : List Int} {s : RS} {u : Unt} {c : Int} (h : WrI width bs s) (hc : Ltr c) (hu : (u.cells, u.feed) = unitOf c) : WrI width (bs ++ [c]) (stepR width true s u) := by
  obtain ⟨c1, c2, c3, c4⟩ := chunks_ok (width - 1) (by omega) (splitB bs).2
  have hsp := splitB_snoc bs c
  unfold unitOf at hu
  unfold stepR
  by_cases h10 : c = 10
  · rw [if_pos h10] at hu
    have hf : u.feed = true := congrArg Prod.snd hu
    have e : splitB (bs ++ [c]) = ((splitB bs).1 ++ [(splitB bs).2], []) := by rw [hsp]; unfold spStep; rw [if_pos h10]
    rw [if_pos hf, h.ov, if_neg (by simp)]
    have ec : chunks (width - 1) ([] : List Int) = ([], []) := rfl
    refine ⟨rfl, by rw [e]; rfl, by rw [e]; exact newFil_line width, rfl, ?_⟩
    rw [e, ec]
    simp only [List.map_append, List.map_cons, List.map_nil, List.append_nil, List.flatMap_append, List.flatMap_cons, List.flatMap_nil]
    rw [h.rows, List.append_assoc]
    congr 1
    unfold lineRows
    congr 1
    have e1 : (s.x.end_ u.pos).cells = s.x.cells := (at0_same s.x u.pos).1
    have e2 : (s.x.end_ u.pos).cont = s.x.cont := at0_cont _ _
    show [((s.x.end_ u.pos).cells, (s.x.end_ u.pos).cont)] = _
    rw [e1, e2, h.c, h.ct]
  · rw [if_neg h10] at hu
    have hf : u.feed = false := congrArg Prod.snd hu
    have hcs : u.cells = [⟨c, z53⟩] := congrArg Prod.fst hu
    have e : splitB (bs ++ [c]) = ((splitB bs).1, (splitB bs).2 ++ [c]) := by rw [hsp]; unfold spStep; rw [if_neg h10]
    rw [if_neg (by rw [hf]; simp), if_neg (by rw [h.ov]; simp), hcs]
    have hlen : s.x.cells.length = width := by rw [h.c]; exact lineC_len _ _ (by omega)
    have hfit : s.x.fits 1 = decide ((chunks (width - 1) (splitB bs).2).2.length + 1 ≤ width - 1) := by unfold Fil.fits; rw [h.n, hlen]
    have ech := chunks_snoc (width - 1) (splitB bs).2 c
    show WrI width (bs ++ [c]) (if s.x.fits 1 = true then _ else _)
    by_cases hft : (chunks (width - 1) (splitB bs).2).2.length + 1 ≤ width - 1
    · rw [hfit, if_pos (by simpa using hft)]
      have ech2 : chunks (width - 1) ((splitB bs).2 ++ [c]) = ((chunks (width - 1) (splitB bs).2).1, (chunks (width - 1) (splitB bs).2).2 ++ [c]) := by rw [ech]; unfold chStep; rw [if_pos hft]
      obtain ⟨p1, p2, p3⟩ := put1 s.x ⟨c, z53⟩ u.pos
      refine ⟨rfl, ?_, ?_, ?_, ?_⟩
      · rw [e, ech2]; show (s.x.put [_] u.pos).n = _; rw [p2, h.n]; simp
      · rw [e, ech2]; show (s.x.put [_] u.pos).cells = _; rw [p1, h.c, h.n]; exact lineC_add _ _ _ (by omega)
      · show (s.x.put [_] u.pos).cont = _; rw [p3, h.ct]
      · rw [e, ech2]; exact h.rows
    · rw [hfit, if_neg (by simpa using hft), if_pos rfl]
      have ech2 : chunks (width - 1) ((splitB bs).2 ++ [c]) = ((chunks (width - 1) (splitB bs).2).1 ++ [(chunks (width - 1) (splitB bs).2).2], [c]) := by rw [ech]; unfold chStep; rw [if_neg hft]
      obtain ⟨p1, p2, p3⟩ := put1 (newFil width) ⟨c, z53⟩ u.pos
      refine ⟨rfl, ?_, ?_, ?_, ?_⟩
      · rw [e, ech2]; show ((newFil width).put [_] u.pos).n = _; rw [p2]; rfl
      · rw [e, ech2]; show ((newFil width).put [_] u.pos).cells = _; rw [p1, newFil_line]; exact lineC_add width [] c (by simp; omega)
      · show ((newFil width).put [_] u.pos).cont = _; rw [p3]; rfl
      · rw [e, ech2]
        simp only [List.map_append, List.map_cons, List.map_nil]
        rw [h.rows, List.append_assoc]
        congr 2
        show [(((s.x.mark 92).cells), true)] = _
        rw [mark_line (by omega) s.x h.c 92]
        rfl
theorem wr_all {width : Nat} (hw : 4 ≤ width) : ∀ (us : List Unt) (cs bs : List Int) (s : RS), WrI width bs s → (∀ c ∈ cs, Ltr c) → us.map (fun v => (v.cells, v.feed)) = cs.map unitOf → WrI width (bs ++ cs) (us.foldl (stepR width true) s)
  | [], cs, bs, s, h, _, he => by
    have : cs = [] := by simpa using he.symm
    rw [this, List.append_nil]; exact h
  | u :: us, cs, bs, s, h, hl, he => by
    obtain ⟨c, cs', rfl⟩ : ∃ c cs', cs = c :: cs' := by cases cs with
      | nil => simp at he
      | cons c cs' => exact ⟨c, cs', rfl⟩
    simp only [List.map_cons, List.cons.injEq] at he
    have := wr_all hw us cs' (bs ++ [c]) _ (wr_step hw h (hl c (by simp)) he.1) (fun d hd => hl d (by simp [hd])) he.2
    rw [List.append_assoc] at this
    exact this
/-- The wrapped rows, line by line. -/
theorem wr_rows {width : Nat} (hw : 4 ≤ width) (to_ : Int) (us : List Unt) (bs : List Int) (hb : ∀ c ∈ bs, Ltr c) (he : us.map (fun v => (v.cells, v.feed)) = bs.map unitOf) :
    (rowsE width true to_ us).map prj = ((splitB bs).1 ++ [(splitB bs).2]).flatMap (lineRows width) := by
  have h0 : WrI width [] ⟨newFil width, false, []⟩ := ⟨rfl, rfl, newFil_line width, rfl, rfl⟩
  have h := wr_all hw us bs [] _ h0 hb he
  rw [List.nil_append] at h
  have h' : WrI width bs (rowsS width true us) := h
  unfold rowsE
  rw [h'.ov, if_neg (by simp), List.map_append, h'.rows, List.flatMap_append, List.append_assoc]
  congr 1
  simp only [List.flatMap_cons, List.flatMap_nil, List.append_nil]
  unfold lineRows
  congr 1
  have e1 : ((rowsS width true us).x.end_ to_).cells = (rowsS width true us).x.cells := (at0_same _ _).1
  have e2 : ((rowsS width true us).x.end_ to_).cont = (rowsS width true us).x.cont := at0_cont _ _
  show [(((rowsS width true us).x.end_ to_).cells, ((rowsS width true us).x.end_ to_).cont)] = _
  rw [e1, e2, h'.c, h'.ct]
/-- Cut: what holds behind the bytes bs. -/
structure CuI (width : Nat) (bs : List Int) (s : RS) : Prop where
  ov : s.over = decide (width - 1 < (splitB bs).2.length)
  n : s.x.n = min (splitB bs).2.length (width - 1)
  c : (s.x.cells, s.x.cont) = cutRow width (splitB bs).2
  rows : s.rows.map prj = (splitB bs).1.map (cutRow width)
theorem cu_step {width : Nat} (hw : 4 ≤ width) {bs : List Int} {s : RS} {u : Unt} {c : Int} (h : CuI width bs s) (hu : (u.cells, u.feed) = unitOf c) : CuI width (bs ++ [c]) (stepR width false s u) := by
  have hsp := splitB_snoc bs c
  have hcells : s.x.cells = (cutRow width (splitB bs).2).1 := congrArg Prod.fst h.c
  have hcont : s.x.cont = false := congrArg Prod.snd h.c
  unfold unitOf at hu
  unfold stepR
  by_cases h10 : c = 10
  · rw [if_pos h10] at hu
    have hf : u.feed = true := congrArg Prod.snd hu
    have e : splitB (bs ++ [c]) = ((splitB bs).1 ++ [(splitB bs).2], []) := by rw [hsp]; unfold spStep; rw [if_pos h10]
    rw [if_pos hf]
    have hn : cutRow width [] = (lineC width [], false) := by unfold cutRow; rw [if_pos (by simp)]
    refine ⟨by rw [e]; simp, by rw [e]; simp [newFil], by rw [e, hn, ← newFil_line]; rfl, ?_⟩
    rw [e]
    simp only [List.map_append, List.map_cons, List.map_nil]
    rw [h.rows]
    congr 2
    by_cases ho : s.over = true
    · rw [if_pos ho]; exact h.c
    · rw [if_neg ho]
      have e1 : (s.x.end_ u.pos).cells = s.x.cells := (at0_same s.x u.pos).1
      have e2 : (s.x.end_ u.pos).cont = s.x.cont := at0_cont _ _
      show ((s.x.end_ u.pos).cells, (s.x.end_ u.pos).cont) = _
      rw [e1, e2]; exact h.c
  · rw [if_neg h10] at hu
    have hf : u.feed = false := congrArg Prod.snd hu
    have hcs : u.cells = [⟨c, z53⟩] := congrArg Prod.fst hu
    have e : splitB (bs ++ [c]) = ((splitB bs).1, (splitB bs).2 ++ [c]) := by rw [hsp]; unfold spStep; rw [if_neg h10]
    rw [if_neg (by rw [hf]; simp), hcs]
    by_cases ho : s.over = true
    · rw [if_pos ho]
      have hlt : width - 1 < (splitB bs).2.length := by have := h.ov; rw [ho] at this; simpa using this.symm
      refine ⟨?_, ?_, ?_, by rw [e]; exact h.rows⟩
      · rw [e, ho]; simp; omega
      · rw [e, h.n]; simp; omega
      · rw [e, h.c]
        unfold cutRow
        rw [if_neg (by omega), if_neg (by simp; omega), List.take_append_of_le_length (by omega)]
    · rw [if_neg ho]
      have hle : ¬ width - 1 < (splitB bs).2.length := by intro hh; have := h.ov; rw [decide_eq_true hh] at this; exact ho this
      have hcl : s.x.cells = lineC width (splitB bs).2 := by rw [hcells]; unfold cutRow; rw [if_pos (by omega)]
      have hlen : s.x.cells.length = width := by rw [hcl]; exact lineC_len _ _ (by omega)
      have hn : s.x.n = (splitB bs).2.length := by rw [h.n]; omega
      have hfit : s.x.fits 1 = decide ((splitB bs).2.length + 1 ≤ width - 1) := by unfold Fil.fits; rw [hn, hlen]
      show CuI width (bs ++ [c]) (if s.x.fits 1 = true then _ else _)
      by_cases hft : (splitB bs).2.length + 1 ≤ width - 1
      · rw [hfit, if_pos (by simpa using hft)]
        obtain ⟨p1, p2, p3⟩ := put1 s.x ⟨c, z53⟩ u.pos
        refine ⟨?_, ?_, ?_, by rw [e]; exact h.rows⟩
        · rw [e]; simp; omega
        · rw [e]; show (s.x.put [_] u.pos).n = _; rw [p2, hn]; simp; omega
        · rw [e]; show ((s.x.put [_] u.pos).cells, (s.x.put [_] u.pos).cont) = _
          rw [p1, p3, hcl, hn, lineC_add _ _ _ (by omega), hcont]
          unfold cutRow
          rw [if_pos (by simp; omega)]
      · rw [hfit, if_neg (by simpa using hft), if_neg (by simp)]
        refine ⟨?_, ?_, ?_, by rw [e]; exact h.rows⟩
        · rw [e]; simp; omega
        · rw [e]; show s.x.n = _; rw [hn]; simp; omega
        · rw [e]; show ((s.x.mark 36).cells, s.x.cont) = _
          rw [mark_line (by omega) s.x hcl 36, hcont]
          unfold cutRow
          rw [if_neg (by simp; omega), List.take_append_of_le_length (by omega), List.take_of_length_le (by omega)]
theorem cu_all {width : Nat} (hw : 4 ≤ width) : ∀ (us : List Unt) (cs bs : List Int) (s : RS), CuI width bs s → us.map (fun v => (v.cells, v.feed)) = cs.map unitOf → CuI width (bs ++ cs) (us.foldl (stepR width false) s)
  | [], cs, bs, s, h, he => by
    have : cs = [] := by simpa using he.symm
    rw [this, List.append_nil]; exact h
  | u :: us, cs, bs, s, h, he => by
    obtain ⟨c, cs', rfl⟩ : ∃ c cs', cs = c :: cs' := by cases cs with
      | nil => simp at he
      | cons c cs' => exact ⟨c, cs', rfl⟩
    simp only [List.map_cons, List.cons.injEq] at he
    have := cu_all hw us cs' (bs ++ [c]) _ (cu_step hw h he.1) he.2
    rw [List.append_assoc] at this
    exact this
theorem cu_rows {width : Nat} (hw : 4 ≤ width) (to_ : Int) (us : List Unt) (bs : List Int) (he : us.map (fun v => (v.cells, v.feed)) = bs.map unitOf) :
    (rowsE width false to_ us).map prj = ((splitB bs).1 ++ [(splitB bs).2]).map (cutRow width) := by
  have h0 : CuI width [] ⟨newFil width, false, []⟩ := ⟨by simp [splitB], by simp [splitB, newFil], by unfold cutRow; rw [if_pos (by simp [splitB])]; show ((newFil width).cells, false) = _; rw [newFil_line]; rfl, rfl⟩
  have h := cu_all hw us bs [] _ h0 he
  rw [List.nil_append] at h
  have h' : CuI width bs (rowsS width false us) := h
  unfold rowsE
  rw [List.map_append, h'.rows, List.map_append]
  congr 1
  by_cases ho : (rowsS width false us).over = true
  · rw [if_pos ho]
    show [((rowsS width false us).x.cells, (rowsS width false us).x.cont)] = _
    rw [h'.c]; rfl
  · rw [if_neg ho]
    have e1 : ((rowsS width false us).x.end_ to_).cells = (rowsS width false us).x.cells := (at0_same _ _).1
    have e2 : ((rowsS width false us).x.end_ to_).cont = (rowsS width false us).x.cont := at0_cont _ _
    show [(((rowsS width false us).x.end_ to_).cells, ((rowsS width false us).x.end_ to_).cont)] = _
    rw [e1, e2, h'.c]; rfl
theorem stepR_len (width : Nat) (wrap : Bool) (s : RS) (u : Unt) : (stepR width wrap s u).rows.length ≤ s.rows.length + 1 := by
  unfold stepR; split
  · simp
  · split
    · omega
    · split
      · simp
      · split <;> simp
theorem rowsS_len (width : Nat) (wrap : Bool) : ∀ (us : List Unt) (s : RS), (us.foldl (stepR width wrap) s).rows.length ≤ s.rows.length + us.length
  | [], s => Nat.le_refl _
  | u :: us, s => by
    have := rowsS_len width wrap us (stepR width wrap s u)
    have h := stepR_len width wrap s u
    rw [List.foldl_cons, List.length_cons]; omega
theorem rowsE_len (width : Nat) (wrap : Bool) (to_ : Int) (us : List Unt) : (rowsE width wrap to_ us).length ≤ us.length + 1 := by
  have : (rowsS width wrap us).rows.length ≤ 0 + us.length := rowsS_len width wrap us _
  unfold rowsE
  simp; omega
theorem collectR_prj (to_ : Int) (m : Nat) (E : List Row) (h : E.length ≤ m) : (collectR to_ m E).map prj = E.map prj := by
  apply List.ext_getElem?
  intro i
  rw [List.getElem?_map, List.getElem?_map, collectR_get]
  by_cases hi : i < m
  · rw [if_pos hi, Option.map_map]; rfl
  · rw [if_neg hi, List.getElem?_eq_none (by omega)]
/-- The lines of the letters. -/
def linesP (l : List Int) : List (List Int) := (lettersP l).1 ++ [(lettersP l).2]
theorem rows_own {bs : List Int} (hb : ∀ c ∈ bs, Ltr c) (hl : bs.length ≤ 9000) (width : Int) (h1 : 4 ≤ width) (h2 : width ≤ 1000) (wrap : Bool) : ∃ rs, rowsP [ownPart bs] 1 ((bs.length : Int) + 1) width 8 wrap 10000 = (rs, 0) ∧
    rs.map prj = (rowsE width.toNat wrap ((bs.length : Int) + 1) (unitsC 8 (charsP [ownPart bs])).1).map prj ∧ rs.length ≤ bs.length + 1 := by
  have hu := units_own 8 bs hb
  have hul : (unitsC 8 (charsP [ownPart bs])).1.length = bs.length := by have := congrArg List.length hu; simpa using this
  have hE := rowsE_len width.toNat wrap ((bs.length : Int) + 1) (unitsC 8 (charsP [ownPart bs])).1
  have hp := collectR_prj ((bs.length : Int) + 1) 10000 (rowsE width.toNat wrap ((bs.length : Int) + 1) (unitsC 8 (charsP [ownPart bs])).1) (by omega)
  refine ⟨collectR ((bs.length : Int) + 1) 10000 (rowsE width.toNat wrap ((bs.length : Int) + 1) (unitsC 8 (charsP [ownPart bs])).1), ?_, hp, ?_⟩
  · unfold rowsP
    rw [if_neg (by rw [check_ltr bs hb (by omega)]; simp), if_neg (by unfold badR; omega)]
    rfl
  · have := congrArg List.length hp
    rw [List.length_map, List.length_map] at this
    omega
theorem whole_wrap (l : List Int) (hl : l.length ≤ 200) (width : Int) (h1 : 4 ≤ width) (h2 : width ≤ 1000) : ∃ rs, rowsP [ownPart (ltOut (lettersP l))] 1 (((ltOut (lettersP l)).length : Int) + 1) width 8 true 10000 = (rs, 0) ∧
    rs.map prj = (linesP l).flatMap (lineRows width.toNat) ∧ rs.length ≤ 201 := by
  have hb := ltr_letters l
  have hlen := (lettersP_len l).1
  obtain ⟨rs, e1, e2, e3⟩ := rows_own hb (by omega) width h1 h2 true
  refine ⟨rs, e1, ?_, by omega⟩
  rw [e2, wr_rows (by omega) _ _ _ hb (units_own 8 _ hb), split_letters]
  rfl
theorem whole_cut (l : List Int) (hl : l.length ≤ 200) (width : Int) (h1 : 4 ≤ width) (h2 : width ≤ 1000) : ∃ rs, rowsP [ownPart (ltOut (lettersP l))] 1 (((ltOut (lettersP l)).length : Int) + 1) width 8 false 10000 = (rs, 0) ∧
    rs.map prj = (linesP l).map (cutRow width.toNat) ∧ rs.length ≤ 201 := by
  have hb := ltr_letters l
  have hlen := (lettersP_len l).1
  obtain ⟨rs, e1, e2, e3⟩ := rows_own hb (by omega) width h1 h2 false
  refine ⟨rs, e1, ?_, by omega⟩
  rw [e2, cu_rows (by omega) _ _ _ (units_own 8 _ hb), split_letters]
  rfl
/-- A row's cells are what 'fills' wants: unmarked, and marked. -/
theorem bt_str (ws : List Int) (hw : ∀ c ∈ ws, Ltr c) (q : Nat) (h : q < ws.length) : bt (strOfNums ws) (q : Int) = ws.getD q 0 := by
  have hs : q < (strOfNums ws).size := by rw [strOfNums_size]; exact h
  have := (str_at ws hw q hs).1
  unfold bt
  rw [dif_pos (by rw [Int.toNat_natCast]; exact hs)]
  rw [← this]
  simp
theorem fills_line (width : Nat) (ws : List Int) (hw : ∀ c ∈ ws, Ltr c) (h : ws.length < width) (mark : Int) (q : Nat) (hq : q < width) : rd_T78 (lineC width ws) (q : Int) = ⟨wantP width (strOfNums ws) false mark q, z53⟩ := by
  unfold wantP
  rw [if_neg (by simp), strOfNums_size]
  show (lineC width ws).getD (q : Int).toNat z78 = _
  rw [Int.toNat_natCast, List.getD_eq_getElem?_getD]
  unfold lineC
  by_cases h1 : q < ws.length
  · rw [if_pos h1, bt_str ws hw q h1, List.getElem?_append_left (by simp; exact h1)]
    simp [h1]
  · rw [if_neg h1, List.getElem?_append_right (by simp; omega), List.getElem?_replicate, if_pos (by simp; omega)]
    rfl
theorem fills_mark (width : Nat) (ws : List Int) (hw : ∀ c ∈ ws, Ltr c) (h : ws.length < width) (mark : Int) (q : Nat) (hq : q < width) : rd_T78 (markC width ws mark) (q : Int) = ⟨wantP width (strOfNums ws) true mark q, z53⟩ := by
  by_cases h1 : q + 1 = width
  · have hv : wantP width (strOfNums ws) true mark q = mark := by unfold wantP; rw [if_pos ⟨h1, rfl⟩]
    rw [hv]
    unfold markC
    show ((lineC width ws).set (width - 1) _).getD (q : Int).toNat z78 = _
    rw [Int.toNat_natCast, List.getD_eq_getElem?_getD, show width - 1 = q by omega, List.getElem?_set_self (by rw [lineC_len _ _ (by omega)]; exact hq)]
    rfl
  · have h2 := fills_line width ws hw h mark q hq
    have hv : wantP width (strOfNums ws) true mark q = wantP width (strOfNums ws) false mark q := by unfold wantP; rw [if_neg (show ¬ (q + 1 = width ∧ true = true) from fun hh => h1 hh.1), if_neg (show ¬ (q + 1 = width ∧ false = true) from fun hh => h1 hh.1)]
    rw [hv, ← h2]
    unfold markC
    show ((lineC width ws).set (width - 1) _).getD (q : Int).toNat z78 = (lineC width ws).getD (q : Int).toNat z78
    rw [List.getD_eq_getElem?_getD, List.getD_eq_getElem?_getD, List.getElem?_set_ne (by rw [Int.toNat_natCast]; omega)]
end Go.Proofs.YtppjgofjjcdcdaaDoor

/- copyistlaw35.LayoutWhole: the walk. -/
namespace Go.Proofs.YtppjgofjjcdcdaaDoor
open PLayoutRows
open Go.RowKit Go.Proofs.YtppjgofjjcdcdaaDoorW.PrintWords
theorem str_take (f g : List Int) : (strOfNums (f ++ g)).extract 0 f.length = strOfNums f := by
  apply ByteArray.ext
  simp [strOfNums]
theorem str_drop (f g : List Int) : (strOfNums (f ++ g)).extract f.length (f.length + g.length) = strOfNums g := by
  apply ByteArray.ext
  simp [strOfNums]
  rw [List.take_of_length_le (by simp)]
theorem str_all (f : List Int) : (strOfNums f).extract 0 f.length = strOfNums f := by
  have := str_take f []
  rw [List.append_nil] at this
  exact this
theorem str_none (f : List Int) : (strOfNums f).extract f.length f.length = strOfNums [] := by
  have := str_drop f []
  rw [List.append_nil] at this
  exact this
theorem C_own (w4 : World) (bs : List Int) (N : Nat) (hN : bs.length = N) :
    Kd.C k55 (w4.alloc (.cells #[.int .i64 0, .int .i64 1, .int .i64 (1 + (N : Int)), .string (strOfNums bs), .int .i64 0, .int .i64 0, .bool false, .bool false, .bool false] 55)) (some ⟨w4.heap.size, 0, none⟩) 1 [ownPart bs] := by
  subst hN
  refine ⟨rfl, by decide, fun _ => ⟨_, rfl, fun j p hj => ?_⟩⟩
  have hj0 : j = 0 := by have := (List.getElem?_eq_some_iff.1 hj).1; simpa using this
  subst hj0
  obtain rfl : ownPart bs = p := by simpa using hj
  refine ⟨_, rfl, k55_mk _ (ownPart bs), fun i u hu => ?_⟩
  have hil : i < 9 := by have := (List.getElem?_eq_some_iff.1 hu).1; simpa using this
  show World.cell? _ ((⟨w4.heap.size, 0, none⟩ : Addr).add (0 * 9 + i)) = some u
  rw [show (⟨w4.heap.size, 0, none⟩ : Addr).add (0 * 9 + i) = ⟨w4.heap.size, 0 * 9 + i, none⟩ by unfold Addr.add; split <;> simp_all]
  refine cell_row (World.alloc_heap_new w4 _) ?_
  rw [Nat.zero_mul, Nat.zero_add, List.getElem?_toArray]
  exact hu
theorem lines_ltr (l : List Int) : ∀ ws ∈ linesP l, ∀ c ∈ ws, Ltr c := by
  intro ws hws c hc
  apply ltr_letters l c
  unfold linesP at hws
  unfold ltOut
  rcases List.mem_append.1 hws with h | h
  · exact List.mem_append_left _ (List.mem_flatMap.2 ⟨ws, h, List.mem_append_left _ hc⟩)
  · rw [List.mem_singleton] at h
    rw [h] at hc
    exact List.mem_append_right _ hc
/-- How far the walk over the lines has come: row rr is next. -/
structure WlO (R : List (List Cell × Bool)) (L : List (List Int)) (width : Nat) (w0 : World) (k rr : Nat) (wr : World) : Prop where
  le : k ≤ L.length
  rl : rr ≤ R.length
  dr : R.drop rr = (L.drop k).flatMap (lineRows width)
  w : Drawn0 w0 wr
/-- Within a line: what is left of it. -/
structure WlI (R : List (List Cell × Bool)) (rest : List (List Cell × Bool)) (width : Nat) (w0 : World) (rr : Nat) (left : ByteArray) (more : Bool) (wr : World) : Prop where
  rl : rr ≤ R.length
  w : Drawn0 w0 wr
  no : more = false → R.drop rr = rest
  yes : more = true → ∃ (fs : List (List Int)) (cur : List Int), left = strOfNums (fs.flatten ++ cur) ∧ R.drop rr = fs.map (fullRow width) ++ (lineC width cur, false) :: rest ∧ (∀ f ∈ fs, f.length = width - 1) ∧ cur.length ≤ width - 1 ∧ (fs ≠ [] → cur ≠ []) ∧ ∀ c ∈ fs.flatten ++ cur, Ltr c
theorem drop_get {α : Type} {R : List α} {rr : Nat} {x : α} {xs : List α} (h : R.drop rr = x :: xs) : rr < R.length ∧ R[rr]? = some x ∧ R.drop (rr + 1) = xs := by
  have hl : rr < R.length := by
    rcases Nat.lt_or_ge rr R.length with h1 | h1
    · exact h1
    · rw [List.drop_of_length_le h1] at h; cases h
  rw [List.drop_eq_getElem_cons hl] at h
  injection h with h1 h2
  exact ⟨hl, by rw [List.getElem?_eq_getElem hl, h1], h2⟩
theorem rd_prj {ra : List Row} {q : Nat} {cs : List Cell} {b : Bool} (h : (ra.map prj)[q]? = some (cs, b)) : (rd_T39 ra (q : Int)).f0 = cs ∧ (rd_T39 ra (q : Int)).f4 = b := by
  rw [List.getElem?_map, Option.map_eq_some_iff] at h
  obtain ⟨r, h1, h2⟩ := h
  have h3 : rd_T39 ra (q : Int) = r := by simp [rd_T39, h1]
  rw [h3]
  exact ⟨congrArg Prod.fst h2, congrArg Prod.snd h2⟩
theorem markC_len (width : Nat) (ws : List Int) (mark : Int) (h : ws.length ≤ width) : (markC width ws mark).length = width := by unfold markC; rw [List.length_set, lineC_len width ws h]
set_option maxRecDepth 100000
set_option maxHeartbeats 4000000 in
theorem whole_walk (A : Option Addr) (n c : Nat) (l : List Int) (hn : l.length = n) (hnc : n ≤ c) (width : Int) (w : World) (hC : Kd.C (Kd.int .i64) w A n l) (hT : Tabs w) :
    Calls Tryd.prog 5 #[.slice A n c, .int .i64 width] w fun e w' => e = .returned (.bool true) ∧ Below w.heap.size w w' := by
  have HT := Lib.hid (fun W (h : Below w.heap.size w W) => hT.below h)
  have HC := Lib.hid (fun W (h : Below w.heap.size w W) => Kd.C_below hC h)
  have HN := Lib.hid hn
  clear hC hT hn hnc
  go_enter Tryd.func5, Tryd.ntmps5
  go_wp2_with fail
  refine (known_any _ (HT.out _ (Below.refl _ _))).mono ?_
  rintro e w1 ⟨rfl, hb⟩
  have HB1 := Lib.hid hb
  clear hb
  by_cases hl2 : 200 < n
  · go_wp2_with (first | (((with_reducible refine wpList_unguard ?_ ?_); (focus rfl))) | (((with_reducible refine wpList_pass ?_ (by kernel_rfl) ?_); (focus rfl))))
    go_ret
    exact ⟨rfl, HB1.out⟩
  · have HL200 := Lib.hid (show l.length ≤ 200 by have := HN.out; omega)
    go_wp2_with (first | (((with_reducible refine wpList_unguard ?_ ?_); (focus rfl))) | (((with_reducible refine wpList_pass ?_ (by kernel_rfl) ?_); (focus rfl))))
    refine (letters_any A c l n HN.out _ (HC.out _ HB1.out) (by omega)).mono ?_
    rintro e w2 ⟨LB, Lc, rfl, hLc, hLC, hb⟩
    have HB2 := Lib.hid (below_on HB1.out hb)
    have HLC := Lib.hid hLC
    have HLc := Lib.hid hLc
    clear hb hLC hLc HB1
    have hp20 := pickP_lt width 20 (by omega)
    have HPK := Lib.hid (fun (W : World) => pick_any width 20 W (by omega) (by omega))
    obtain ⟨p, hp⟩ : ∃ p, pickP width 20 = p := ⟨_, rfl⟩
    rw [hp] at hp20
    simp only [hp] at HPK
    obtain ⟨wd, hwd⟩ : ∃ wd : Nat, 4 + p = (wd : Int) := ⟨(4 + p).toNat, by omega⟩
    have hw4 : 4 ≤ wd ∧ wd ≤ 23 := by omega
    have hwp : wrap64 (4 + p) = (wd : Int) := by rw [IntWalk.wrap64_in _ (by omega), hwd]
    have hltr := ltr_letters l
    have hbl := (lettersP_len l).1
    obtain ⟨ra, hra, hram, hral⟩ := whole_wrap l HL200.out (wd : Int) (by omega) (by omega)
    obtain ⟨rb, hrb, hrbm, hrbl⟩ := whole_cut l HL200.out (wd : Int) (by omega) (by omega)
    rw [Int.toNat_natCast] at hram hrbm
    have hll : (ltLines (lettersP l)).length = (linesP l).length := by simp [ltLines, linesP]
    have hle : ltLines (lettersP l) = (linesP l).map strOfNums := rfl
    obtain ⟨nl, hnl⟩ : ∃ nl, (linesP l).length = nl := ⟨_, rfl⟩
    have hrbn : rb.length = nl := by have := congrArg List.length hrbm; rw [List.length_map, List.length_map, hnl] at this; exact this
    rw [hll, hnl] at HLC HLc ⊢
    obtain ⟨bs, hbs⟩ : ∃ bs, ltOut (lettersP l) = bs := ⟨_, rfl⟩
    rw [hbs] at hra hrb hltr hbl ⊢
    obtain ⟨N, hN⟩ : ∃ N, bs.length = N := ⟨_, rfl⟩
    have hssz : (strOfNums bs).size = N := by rw [strOfNums_size, hN]
    have hN2 : N ≤ 200 := by have := HL200.out; omega
    rw [hN] at hra hrb
    have HRA := Lib.hid hra
    have HRB := Lib.hid hrb
    have HRAM := Lib.hid hram
    have HRBM := Lib.hid hrbm
    have HRBN := Lib.hid hrbn
    have HLTR := Lib.hid hltr
    have HNL := Lib.hid hnl
    have HBN := Lib.hid hN
    have HOWN := Lib.hid (fun W => copyistlaw35_own.calls 1 (strOfNums bs) 0 1 (1 + (N : Int)) (strOfNums bs) 0 0 false false false W (by unfold copyistlaw35_own.f; rw [hssz, IntWalk.wrap64_in _ (by omega)]))
    clear hra hrb hram hrbm hrbn hltr hbs hnl hN hll hle hbl hp hral hrbl
    go_wp2_with (first | (go_at_call 29; refine (HPK.out _).mono ?_; rintro e w3 ⟨rfl, hb3⟩; have HB3 := Lib.hid (below_on HB2.out hb3); have HLC3 := Lib.hid (Kd.C_below HLC.out hb3); clear hb3) | (go_at_call 30; refine (HOWN.out _).mono ?_; rintro e w4 ⟨rfl, hb4⟩; have HB4 := Lib.hid (below_on HB3.out hb4); have HLC4 := Lib.hid (Kd.C_below HLC3.out hb4); clear hb4) | (((with_reducible refine wpList_unguard ?_ ?_); (focus rfl))) | (((with_reducible refine wpList_pass ?_ (by kernel_rfl) ?_); (focus rfl))))
    refine (rows_C _ 1 1 [ownPart bs] rfl 1 ((N : Int) + 1) (wd : Int) 8 true 10000 _ (C_own w4 bs N HBN.out) (HT.out _ (below_alloc HB4.out _)) (by intro q hq; rw [List.mem_singleton] at hq; subst hq; show (strOfNums bs).size ≤ _; omega) (by simp) ra 0 HRA.out).mono ?_
    rintro e w5 ⟨A5, c5, rfl, hc5, hC5, hb5⟩
    have HB5 := Lib.hid (below_on (below_alloc HB4.out _) hb5)
    have HP5 := Lib.hid (Kd.C_below (C_own w4 bs N HBN.out) hb5)
    have HLC5 := Lib.hid (Kd.C_below (Kd.C_below HLC4.out (below_alloc (Below.refl _ _) _)) hb5)
    have HC5 := Lib.hid hC5
    have HL5 := Lib.hid hc5
    clear hb5 hC5 hc5
    go_wp2_with (first | (((with_reducible refine wpList_unguard ?_ ?_); (focus rfl))) | (((with_reducible refine wpList_pass ?_ (by kernel_rfl) ?_); (focus rfl))))
    refine (rows_C _ 1 1 [ownPart bs] rfl 1 ((N : Int) + 1) (wd : Int) 8 false 10000 _ HP5.out (HT.out _ HB5.out) (by intro q hq; rw [List.mem_singleton] at hq; subst hq; show (strOfNums bs).size ≤ _; omega) (by simp) rb 0 HRB.out).mono ?_
    rintro e w6 ⟨A6, c6, rfl, hc6, hC6, hb6⟩
    have HB6 := Lib.hid (below_on HB5.out hb6)
    have HLS := Lib.hid (Kd.C_below HLC5.out hb6)
    have HCA := Lib.hid (Kd.C_below HC5.out hb6)
    have HCB := Lib.hid hC6
    clear hb6 hC6 hc6
    obtain ⟨na, hna⟩ : ∃ na, ra.length = na := ⟨_, rfl⟩
    rw [hna] at HCA ⊢
    rw [HRBN.out] at HCB ⊢
    have HNA := Lib.hid hna
    clear hna
    go_wp2_with (first | (((with_reducible refine wpList_unguard ?_ ?_); (focus rfl))) | (((with_reducible refine wpList_pass ?_ (by kernel_rfl) ?_); (focus rfl))))
    have hw6 : Kd.C Kd.string w6 LB nl ((linesP l).map strOfNums) := HLS.out
    obtain ⟨m, hm⟩ : ∃ m : Nat, wd = m + 1 := ⟨wd - 1, by omega⟩
    have hw1 : (wd : Int) - 1 = (m : Int) := by omega
    have hw2 : wrap64 ((wd : Int) - 1) = (m : Int) := by rw [hw1]; exact IntWalk.wrap64_in _ (by omega)
    have hw3 : wrap64 (m : Int) = (m : Int) := IntWalk.wrap64_in _ (by omega)
    clear hm
    have hnl9 : (nl : Int) ≤ 9223372036854775807 := by have := HCB.out.2.1; omega
    have hna9 : (na : Int) ≤ 9223372036854775807 := by have := HCA.out.2.1; omega
    go_loopw [13, 14] (fun r i wr => ∃ rr k : Nat, r = .int .i64 rr ∧ i = .int .i64 k ∧ WlO (ra.map prj) (linesP l) wd w6 k rr wr) (fun _ i _ => nl - (intOf i).toNat)
    case atStart => exact ⟨0, 0, rfl, rfl, Nat.zero_le _, Nat.zero_le _, by simpa using HRAM.out, Drawn0.refl _⟩
    case round =>
      obtain ⟨rr, k, rfl, rfl, hS⟩ := hrel
      obtain ⟨wo, rfl⟩ : ∃ wo : World, wo = wr := ⟨_, rfl⟩
      have hk : k ≤ nl := by have := hS.le; have := HNL.out; omega
      have HSS := Lib.hid hS
      clear hS
      by_cases hlt : k < nl
      · have hkl : k < (linesP l).length := by have := HNL.out; omega
        obtain ⟨ws, hws⟩ : ∃ ws, (linesP l)[k]'hkl = ws := ⟨_, rfl⟩
        have HLX := Lib.hid (show ∀ W, Drawn0 w6 W → ∃ ad, LB = some ad ∧ W.cell? (ad.add k) = some (.string (strOfNums ws)) from by
          intro W h
          obtain ⟨ad, h1, h2⟩ := Kd.at_string (C_drawn HLS.out h) (k : Int) (by omega) (by omega)
          rw [Int.toNat_natCast] at h2
          refine ⟨ad, h1, ?_⟩
          have h3 : rdOf ByteArray.empty (ltLines (lettersP l)) (k : Int) = strOfNums ws := by
            have h4 : ltLines (lettersP l) = (linesP l).map strOfNums := rfl
            rw [h4, ← hws]
            simp [rdOf, hkl]
          rw [h3] at h2
          exact h2)
        obtain ⟨c1, c2, c3, c4⟩ := chunks_ok (wd - 1) (by omega) ws
        have hwl := lines_ltr l ws (by rw [← hws]; exact List.getElem_mem hkl)
        obtain ⟨rest, hrest⟩ : ∃ rest, ((linesP l).drop (k + 1)).flatMap (lineRows wd) = rest := ⟨_, rfl⟩
        have hdr : (ra.map prj).drop rr = lineRows wd ws ++ rest := by
          rw [HSS.out.dr, List.drop_eq_getElem_cons hkl, List.flatMap_cons, hws, hrest]
        have hat : WlI (ra.map prj) rest wd w6 rr (strOfNums ws) true wo :=
          ⟨HSS.out.rl, HSS.out.w, by simp, fun _ => ⟨(chunks (wd - 1) ws).1, (chunks (wd - 1) ws).2, by rw [c4], by rw [hdr]; unfold lineRows; simp, c2, c1, c3, by rw [c4]; exact hwl⟩⟩
        have HAT := Lib.hid hat
        have HWS := Lib.hid hws
        have HRE := Lib.hid hrest
        have HWL := Lib.hid hwl
        obtain ⟨lad, hlad, hlx⟩ := HLX.out _ HSS.out.w
        subst hlad
        have hk0 : (0 : Int) ≤ (k : Int) := by omega
        have hk1 : (k : Int) < (nl : Int) := by omega
        clear c1 c2 c3 c4 hwl hdr hat hws hrest hw6
        go_wp2_with (first | (((with_reducible refine wpList_unguard ?_ ?_); (focus rfl))) | (((with_reducible refine wpList_pass ?_ (by kernel_rfl) ?_); (focus rfl))))
        go_loopw [13, 15, 16] (fun r lv mv wi => ∃ (q : Nat) (left : ByteArray) (more : Bool), r = .int .i64 q ∧ lv = .string left ∧ mv = .bool more ∧ WlI (ra.map prj) rest wd w6 q left more wi) (fun r _ _ _ => na - (intOf r).toNat)
        case atStart => exact ⟨rr, strOfNums ws, true, rfl, rfl, rfl, HAT.out⟩
        case round =>
          obtain ⟨q, left, more, rfl, rfl, rfl, hI⟩ := hrel
          obtain ⟨wi, rfl⟩ : ∃ wi : World, wi = wr := ⟨_, rfl⟩
          have HI := Lib.hid hI
          clear hI hlx
          cases more with
          | false =>
            have hrd := HI.out.no rfl
            have hqr : (rb.map prj)[k]? = some (cutRow wd ws) := by rw [HRBM.out, List.getElem?_map, List.getElem?_eq_getElem hkl, HWS.out]; rfl
            obtain ⟨lad2, hlad2, hlx⟩ := HLX.out _ HI.out.w
            cases hlad2
            have HRD := Lib.hid hrd
            have hwd1 : wd - 1 = m := by omega
            clear hrd
            by_cases hwm : ws.length ≤ m
            · have hcr : cutRow wd ws = (lineC wd ws, false) := by unfold cutRow; rw [if_pos (by omega)]
              rw [hcr] at hqr
              have hwl := HWL.out
              obtain ⟨hf0, hf4⟩ := rd_prj hqr
              obtain ⟨ad, A0, a0, A1, a1, hA6, x0, x1, x2, x3, x4, lc0, g0, -, -⟩ := at_T39 (C_drawn HCB.out HI.out.w) (k : Int) (by omega) (by omega)
              rw [Int.toNat_natCast] at x0 x4
              rw [hf0, lineC_len wd ws (by omega)] at x0 lc0
              rw [hf0, lineC_len wd ws (by omega)] at g0
              rw [hf4] at x4
              have HF := Lib.hid (show ∀ W, Drawn0 wi W → Calls Tryd.prog 31 #[.slice A0 wd a0, .string (strOfNums ws), .bool false, .int .i64 36] W (fun e w' => e = .returned (.bool true) ∧ Drawn0 W w') from fun W h =>
                (fills_any A0 a0 (lineC wd ws) wd (lineC_len wd ws (by omega)) (strOfNums ws) false 36 W (C_drawn g0 h) (fun i hi => fills_line wd ws hwl (by omega) 36 i hi) (by rw [strOfNums_size]; omega)).mono (by rintro e w' ⟨rfl, rfl⟩; exact ⟨rfl, Drawn0.refl _⟩))
              have hq0 : (0 : Int) ≤ (k : Int) := Int.natCast_nonneg _
              have hq1 : (k : Int) < (nl : Int) := by omega
              subst hA6
              clear g0 hf0 hf4 x1 x2 x3 hqr
              obtain ⟨ln, hln⟩ : ∃ ln, ws.length = ln := ⟨_, rfl⟩
              have hsz : (strOfNums ws).size = ln := by rw [strOfNums_size, hln]
              have hex : (strOfNums ws).extract 0 ln = strOfNums ws := by rw [← hln]; exact str_all ws
              have hmn : min (ln : Int) (m : Int) = (ln : Int) := by omega
              obtain ⟨str, hstr⟩ : ∃ str, strOfNums ws = str := ⟨_, rfl⟩
              rw [hstr] at hsz hex HF hlx
              clear hcr hwl hln hstr hwd1
              go_wp2_with (first | (((with_reducible refine wpList_unguard ?_ ?_); (focus rfl))) | (((with_reducible refine wpList_pass ?_ (by kernel_rfl) ?_); (focus rfl))))
              go_quiet (first | (go_at_call 31; exact quiet_C HF.out))
              go_wp2_with (first | (((with_reducible refine wpList_unguard ?_ ?_); (focus rfl))) | (((with_reducible refine wpList_pass ?_ (by kernel_rfl) ?_); (focus rfl))))
              go_roundw
              case rel => exact ⟨q, k + 1, rfl, by go_num, ⟨by have := HNL.out; omega, HI.out.rl, by rw [HRD.out, HRE.out], by have h := HI.out.w; repeat (first | exact h | apply Drawn0.step)⟩⟩
              case measure => simp [intOf]; omega
            · have hcr : cutRow wd ws = (markC wd (ws.take m) 36, false) := by unfold cutRow; rw [if_neg (by omega), hwd1]
              rw [hcr] at hqr
              obtain ⟨f, hf⟩ : ∃ f, ws.take m = f := ⟨_, rfl⟩
              obtain ⟨g, hg⟩ : ∃ g, ws.drop m = g := ⟨_, rfl⟩
              have hfg : ws = f ++ g := by rw [← hf, ← hg, List.take_append_drop]
              have hfl : f.length = m := by rw [← hf, List.length_take]; omega
              have hgl : 0 < g.length := by rw [← hg, List.length_drop]; omega
              rw [hf] at hqr
              have hwl : ∀ c ∈ f, Ltr c := fun c hc => HWL.out c (by rw [hfg]; exact List.mem_append_left _ hc)
              obtain ⟨hf0, hf4⟩ := rd_prj hqr
              obtain ⟨ad, A0, a0, A1, a1, hA6, x0, x1, x2, x3, x4, lc0, g0, -, -⟩ := at_T39 (C_drawn HCB.out HI.out.w) (k : Int) (by omega) (by omega)
              rw [Int.toNat_natCast] at x0 x4
              rw [hf0, markC_len wd f 36 (by omega)] at x0 lc0
              rw [hf0, markC_len wd f 36 (by omega)] at g0
              rw [hf4] at x4
              have HF := Lib.hid (show ∀ W, Drawn0 wi W → Calls Tryd.prog 31 #[.slice A0 wd a0, .string (strOfNums f), .bool true, .int .i64 36] W (fun e w' => e = .returned (.bool true) ∧ Drawn0 W w') from fun W h =>
                (fills_any A0 a0 (markC wd f 36) wd (markC_len wd f 36 (by omega)) (strOfNums f) true 36 W (C_drawn g0 h) (fun i hi => fills_mark wd f hwl (by omega) 36 i hi) (by rw [strOfNums_size]; omega)).mono (by rintro e w' ⟨rfl, rfl⟩; exact ⟨rfl, Drawn0.refl _⟩))
              have hq0 : (0 : Int) ≤ (k : Int) := Int.natCast_nonneg _
              have hq1 : (k : Int) < (nl : Int) := by omega
              subst hA6
              clear g0 hf0 hf4 x1 x2 x3 hqr
              obtain ⟨ln, hln⟩ : ∃ ln, f.length + g.length = ln := ⟨_, rfl⟩
              have hsz : (strOfNums (f ++ g)).size = ln := by rw [strOfNums_size, List.length_append, hln]
              have hex : (strOfNums (f ++ g)).extract 0 m = strOfNums f := by rw [← hfl]; exact str_take f g
              have hmn : min (ln : Int) (m : Int) = (m : Int) := by omega
              have hmlt : (m : Int) < (ln : Int) := by omega
              have hmle1 : (m : Int) ≤ (ln : Int) := by omega
              have hmle2 : m ≤ ln := by omega
              have hmle3 : ¬ ln < m := by omega
              have hm0 : (0 : Int) ≤ (m : Int) := Int.natCast_nonneg _
              rw [hfg] at hlx
              obtain ⟨str, hstr⟩ : ∃ str, strOfNums (f ++ g) = str := ⟨_, rfl⟩
              obtain ⟨s1, hs1⟩ : ∃ s1, strOfNums f = s1 := ⟨_, rfl⟩
              rw [hstr] at hsz hex hlx
              rw [hs1] at hex HF
              clear hcr hwl hln hstr hwd1 hf hg hfg hfl hgl hwm hs1
              go_wp2_with (first | (((with_reducible refine wpList_unguard ?_ ?_); (focus rfl))) | (((with_reducible refine wpList_pass ?_ (by kernel_rfl) ?_); (focus rfl))))
              go_quiet (first | (go_at_call 31; exact quiet_C HF.out))
              go_wp2_with (first | (((with_reducible refine wpList_unguard ?_ ?_); (focus rfl))) | (((with_reducible refine wpList_pass ?_ (by kernel_rfl) ?_); (focus rfl))))
              go_roundw
              case rel => exact ⟨q, k + 1, rfl, by go_num, ⟨by have := HNL.out; omega, HI.out.rl, by rw [HRD.out, HRE.out], by have h := HI.out.w; repeat (first | exact h | apply Drawn0.step)⟩⟩
              case measure => simp [intOf]; omega
          | true =>
            obtain ⟨fs, cur, hleft, hd, f1, f2, f3, f4⟩ := HI.out.yes rfl
            cases fs with
            | nil =>
              obtain ⟨hql, hqr, hqd⟩ := drop_get (show (ra.map prj).drop q = (lineC wd cur, false) :: rest from hd)
              rw [List.length_map, HNA.out] at hql
              have hl' : left = strOfNums cur := hleft
              have f4' : ∀ c ∈ cur, Ltr c := f4
              obtain ⟨hf0, hf4⟩ := rd_prj hqr
              obtain ⟨ad, A0, a0, A1, a1, hA5, x0, x1, x2, x3, x4, lc0, g0, -, -⟩ := at_T39 (C_drawn HCA.out HI.out.w) (q : Int) (by omega) (by omega)
              rw [Int.toNat_natCast] at x0 x4
              rw [hf0, lineC_len wd cur (by omega)] at x0 lc0
              rw [hf0, lineC_len wd cur (by omega)] at g0
              rw [hf4] at x4
              have HF := Lib.hid (show ∀ W, Drawn0 wi W → Calls Tryd.prog 31 #[.slice A0 wd a0, .string (strOfNums cur), .bool false, .int .i64 92] W (fun e w' => e = .returned (.bool true) ∧ Drawn0 W w') from fun W h =>
                (fills_any A0 a0 (lineC wd cur) wd (lineC_len wd cur (by omega)) (strOfNums cur) false 92 W (C_drawn g0 h) (fun i hi => fills_line wd cur f4' (by omega) 92 i hi) (by rw [strOfNums_size]; omega)).mono (by rintro e w' ⟨rfl, rfl⟩; exact ⟨rfl, Drawn0.refl _⟩))
              have hq0 : (0 : Int) ≤ (q : Int) := Int.natCast_nonneg _
              have hq1 : (q : Int) < (na : Int) := by omega
              subst hA5
              clear g0 hf0 hf4 x1 x2 x3 hqr
              obtain ⟨ln, hln⟩ : ∃ ln, cur.length = ln := ⟨_, rfl⟩
              have hsz : (strOfNums cur).size = ln := by rw [strOfNums_size, hln]
              have hex : (strOfNums cur).extract 0 ln = strOfNums cur := by rw [← hln]; exact str_all cur
              obtain ⟨le2, hle2⟩ : ∃ le2, (strOfNums cur).extract ln ln = le2 := ⟨_, rfl⟩
              have hmn : min (ln : Int) (m : Int) = (ln : Int) := by omega
              have HQD := Lib.hid hqd
              subst hl'
              obtain ⟨str, hstr⟩ : ∃ str, strOfNums cur = str := ⟨_, rfl⟩
              rw [hstr] at hsz hex hle2 HF HI ⊢
              clear hleft hd f1 f2 f3 f4 f4' hqd hln hstr
              go_wp2_with (first | (((with_reducible refine wpList_unguard ?_ ?_); (focus rfl))) | (((with_reducible refine wpList_pass ?_ (by kernel_rfl) ?_); (focus rfl))))
              go_quiet (first | (go_at_call 31; exact quiet_C HF.out))
              go_wp2_with (first | (((with_reducible refine wpList_unguard ?_ ?_); (focus rfl))) | (((with_reducible refine wpList_pass ?_ (by kernel_rfl) ?_); (focus rfl))))
              trace_state
              go_roundw
              case rel => exact ⟨q + 1, _, false, by go_num, rfl, rfl, ⟨by rw [List.length_map, HNA.out]; omega, by have h := HI.out.w; repeat (first | exact h | apply Drawn0.step), fun _ => HQD.out, by simp⟩⟩
              case measure => simp [intOf]; omega
            | cons f fs' =>
              obtain ⟨hql, hqr, hqd⟩ := drop_get (show (ra.map prj).drop q = (markC wd f 92, true) :: (fs'.map (fullRow wd) ++ (lineC wd cur, false) :: rest) from hd)
              rw [List.length_map, HNA.out] at hql
              have hfl : f.length = m := by have := f1 f (by simp); omega
              obtain ⟨g, hg⟩ : ∃ g, fs'.flatten ++ cur = g := ⟨_, rfl⟩
              have hl' : left = strOfNums (f ++ g) := by rw [hleft, ← hg]; simp
              have hgn : 0 < g.length := by
                have h1 := f3 (by simp)
                have h2 : 0 < cur.length := List.length_pos_iff.2 h1
                rw [← hg, List.length_append]; omega
              have f4' : ∀ c ∈ f, Ltr c := fun c hc => f4 c (by simp [hc])
              obtain ⟨hf0, hf4⟩ := rd_prj hqr
              obtain ⟨ad, A0, a0, A1, a1, hA5, x0, x1, x2, x3, x4, lc0, g0, -, -⟩ := at_T39 (C_drawn HCA.out HI.out.w) (q : Int) (by omega) (by omega)
              rw [Int.toNat_natCast] at x0 x4
              rw [hf0, markC_len wd f 92 (by omega)] at x0 lc0
              rw [hf0, markC_len wd f 92 (by omega)] at g0
              rw [hf4] at x4
              have HF := Lib.hid (show ∀ W, Drawn0 wi W → Calls Tryd.prog 31 #[.slice A0 wd a0, .string (strOfNums f), .bool true, .int .i64 92] W (fun e w' => e = .returned (.bool true) ∧ Drawn0 W w') from fun W h =>
                (fills_any A0 a0 (markC wd f 92) wd (markC_len wd f 92 (by omega)) (strOfNums f) true 92 W (C_drawn g0 h) (fun i hi => fills_mark wd f f4' (by omega) 92 i hi) (by rw [strOfNums_size]; omega)).mono (by rintro e w' ⟨rfl, rfl⟩; exact ⟨rfl, Drawn0.refl _⟩))
              have hq0 : (0 : Int) ≤ (q : Int) := Int.natCast_nonneg _
              have hq1 : (q : Int) < (na : Int) := by omega
              subst hA5
              clear g0 hf0 hf4 x1 x2 x3 hqr
              obtain ⟨ln, hln⟩ : ∃ ln, f.length + g.length = ln := ⟨_, rfl⟩
              have hsz : (strOfNums (f ++ g)).size = ln := by rw [strOfNums_size, List.length_append, hln]
              have hex : (strOfNums (f ++ g)).extract 0 m = strOfNums f := by rw [← hfl]; exact str_take f g
              have hle2 : (strOfNums (f ++ g)).extract m ln = strOfNums g := by rw [← hln, ← hfl]; exact str_drop f g
              have hmn : min (ln : Int) (m : Int) = (m : Int) := by omega
              have hmlt : (m : Int) < (ln : Int) := by omega
              have hmle1 : (m : Int) ≤ (ln : Int) := by omega
              have hmle2 : m ≤ ln := by omega
              have hmle3 : ¬ ln < m := by omega
              have hm0 : (0 : Int) ≤ (m : Int) := Int.natCast_nonneg _
              have HYES := Lib.hid (show ∃ (fs : List (List Int)) (cur : List Int), strOfNums g = strOfNums (fs.flatten ++ cur) ∧ (ra.map prj).drop (q + 1) = fs.map (fullRow wd) ++ (lineC wd cur, false) :: rest ∧ (∀ f ∈ fs, f.length = wd - 1) ∧ cur.length ≤ wd - 1 ∧ (fs ≠ [] → cur ≠ []) ∧ ∀ c ∈ fs.flatten ++ cur, Ltr c from
                ⟨fs', cur, by rw [hg], hqd, fun f hf => f1 f (by simp [hf]), f2, fun _ => f3 (by simp), fun c hc => f4 c (by simp only [List.flatten_cons, List.append_assoc]; exact List.mem_append_right _ hc)⟩)
              subst hl'
              obtain ⟨str, hstr⟩ : ∃ str, strOfNums (f ++ g) = str := ⟨_, rfl⟩
              obtain ⟨s1, hs1⟩ : ∃ s1, strOfNums f = s1 := ⟨_, rfl⟩
              obtain ⟨s2, hs2⟩ : ∃ s2, strOfNums g = s2 := ⟨_, rfl⟩
              rw [hstr] at hsz hex hle2 HI ⊢
              rw [hs1] at hex HF
              rw [hs2] at hle2 HYES
              clear hleft hd f1 f2 f3 f4 f4' hqd hln hstr hs1 hs2 hg hgn
              go_wp2_with (first | (((with_reducible refine wpList_unguard ?_ ?_); (focus rfl))) | (((with_reducible refine wpList_pass ?_ (by kernel_rfl) ?_); (focus rfl))))
              go_quiet (first | (go_at_call 31; exact quiet_C HF.out))
              go_wp2_with (first | (((with_reducible refine wpList_unguard ?_ ?_); (focus rfl))) | (((with_reducible refine wpList_pass ?_ (by kernel_rfl) ?_); (focus rfl))))
              trace_state
              go_roundw
              case rel => exact ⟨q + 1, s2, true, by go_num, rfl, rfl, ⟨by rw [List.length_map, HNA.out]; omega, by have h := HI.out.w; repeat (first | exact h | apply Drawn0.step), by simp, fun _ => HYES.out⟩⟩
              case measure => simp [intOf]; omega
      · have hkn : k = nl := by omega
        have hR : rr = na := by
          have h1 := HSS.out.dr
          have h0 : (linesP l).drop k = [] := List.drop_of_length_le (by have := HNL.out; omega)
          rw [h0] at h1
          have h2 := congrArg List.length h1
          have h3 := HSS.out.rl
          rw [List.length_drop, List.length_map, HNA.out] at h2
          rw [List.length_map, HNA.out] at h3
          simp at h2
          omega
        subst hkn
        subst hR
        go_wp2_with (first | (((with_reducible refine wpList_unguard ?_ ?_); (focus rfl))) | (((with_reducible refine wpList_pass ?_ (by kernel_rfl) ?_); (focus rfl))))
        go_ret
        exact ⟨rfl, below_on HB6.out HSS.out.w.below⟩
end Go.Proofs.YtppjgofjjcdcdaaDoor

/- LayoutWhole holds: whatever the input, the call returns true and the arguments read as they did (the two tables of unicode/utf8 as the text lays them); tied to the program's text. -/
namespace Go.Proofs.YtppjgofjjcdcdaaDoor.layoutWhole
open Go.ChangeShapes Go.WideShapes Go.ChangeAt Go.RowKit Go.Proofs.YtppjgofjjcdcdaaDoor Go.Proofs.YtppjgofjjcdcdaaDoor.PLayoutRows Go.Proofs.YtppjgofjjcdcdaaDoorW.PrintWords
set_option maxRecDepth 100000 in
theorem lifted (os : Os) (started : os.Started) (H : Type) (enc : TypeId × Value → H) :
    ReturnsInHanded {} Tryd.checked os 5 .any (fun w args => (Rows.layoutWholeSpec.pre enc Tryd.prog Tryd.f5 Rows.layoutWholeRow.domain false w args ∧ laidMetH Tryd.prog laid2 w) ∧ sizedMet enc Tryd.prog Tryd.f5 (OpenSpec.ofChange Rows.layoutWholeSpec) false w args)
      (Rows.layoutWholeSpec.post enc Tryd.prog Tryd.f5 false true false false) := by
  refine returnsInHanded_of_change_and (C := Tryd.checked) (X := fun w _ => laidMetH Tryd.prog laid2 w) (fun _ _ _ hh h => h.of_heap hh) own started (by kernel_rfl) Tryd.func5
    (ChangeSpec.witness_shaped (enc := enc) (C := Tryd.checked) (os := os) (X := fun w _ => laidMetH Tryd.prog laid2 w) false (World.laidAll Tryd.prog os laid2) #[.slice none 0 0, .int .i64 0] 8 (World.laidAll_os _ _ _)
      (World.shaped_of_ZipB (by kernel_rfl) (by kernel_rfl)) (by kernel_rfl) (by kernel_rfl) (by kernel_rfl)
      (by rw [MakeChecks.laidMetH_plain _ _ _ (by kernel_rfl)]; exact laidMet_laidAll _ (by kernel_rfl) (by kernel_rfl))) ?_
  intro W base args ds gs before hval0 hW _ _ hL _
  have hval : ∀ (j : Nat) t v, Tryd.f5.params[j]? = some t → args[j]? = some v → Value.okWide Tryd.prog W .any base t v := hval0
  have hW' := hW
  obtain ⟨p, q, hA0, hV, rfl, hfz, hnd⟩ := hW
  have hA : DataW.TrodAll enc Tryd.prog W 0 (fun _ => true) true Tryd.f5.params.toList args.toList ds p := hA0
  rw [Tryd.params5] at hA hval
  obtain ⟨v0, vs0, d0, ds0, p0, q0, hargs, rfl, rfl, h0, r0⟩ := trodAll_cons hA
  obtain ⟨v1, vs1, d1, ds1, p1, q1, rfl, rfl, rfl, h1, r1⟩ := trodAll_cons r0
  obtain ⟨rfl, rfl, rfl⟩ := trodAll_nil r1
  obtain rfl : args = #[v0, v1] := by cases args; simp_all
  obtain ⟨rfl, rfl⟩ := trodVars_none hV
  obtain ⟨a0, n0, c0, rfl⟩ := okWide_slice Tryd.underlying37 (hval 0 37 v0 rfl rfl)
  have k0 := h0
  have lt0 : ∀ x ∈ p0, x.block < W.heap.size := by obtain ⟨m, hm⟩ := k0; exact DataW.trod_lt m _ _ _ hm
  obtain ⟨l0, hn0, hc0, hC0⟩ := open_arg Tryd.underlying37 cellsOf3 (opens_int Tryd.underlying3) h0
  obtain ⟨a1, rfl, rfl, rfl, w1⟩ := open_int Tryd.underlying3 (hval 1 3 v1 rfl rfl) h1
  clear hA0 hval0 hval
  refine (whole_walk a0 n0 c0 l0 hn0 hc0 a1 W hC0 (tabs_of_laid hL)).mono fun e W' ⟨he, bel⟩ => ?_
  subst he
  exact ⟨_, rfl, _, _, _, [], _, [], hW', trodAll_mk1 (shut_bool Tryd.underlying4 _), (trodAll_cons_mk (Below.trod laidOut (by kernel_rfl) (of_decide_eq_true (by kernel_rfl)) k0 bel lt0) (trodAll_cons_mk (shut_int Tryd.underlying3 w1) trodAll_mk0)), rfl, bel.frame _, fun h => by cases h⟩
theorem over : Rows.layoutWholeRow.holds Tryd.pinned (OpenSpec.ofChange Rows.layoutWholeSpec) :=
  OpenClaim.holds_of_wide 5 Tryd.f5 rfl rfl rfl rfl rfl rfl rfl ⟨rfl, rfl, rfl, rfl, rfl⟩ rfl rfl rfl rfl rfl (by kernel_rfl) Tryd.func5 (by kernel_rfl)
    (of_decide_eq_true (by kernel_rfl)) (by unfold Func.isWrapper; first | (rw [if_pos (by decide +kernel)]; kernel_rfl) | (rw [if_neg (by decide +kernel)]; exact ⟨rfl, rfl⟩))
    (fun os started H enc _ => lifted os started H enc)
theorem card : Rows.LayoutWholeCardSaid :=
  Claim7.holds_tied_plain_at .later [] [.data, .pinned] true Rows.layoutWholeCard.stood.harness false over (fun _ h => by cases h) (by kernel_rfl) (fun _ h => by cases h) layoutWhole_row_tie rfl ⟨rfl, rfl⟩ (by kernel_rfl) rfl
    (fun f fn hf hfn => by
      obtain rfl : f = 5 := Option.some.inj ((show Tryd.prog.funcNamed "copyist/copyistlaw35.LayoutWhole" = some 5 by kernel_rfl).symm.trans hf) |>.symm
      obtain rfl : fn = Tryd.f5 := (Option.some.inj (Tryd.func5.symm.trans hfn)).symm
      exact ⟨by kernel_rfl, fun j t ht => by
        rw [Tryd.params5] at ht
        have hm : t ∈ [37, 3] := by have := Array.mem_of_getElem? ht; simp at this ⊢; omega
        have hall : ([37, 3].all fun u => !Tryd.prog.wantsStandIn u) = true := by kernel_rfl
        exact (show Tryd.prog.wantsStandIn t = false by simpa using List.all_eq_true.1 hall t hm)⟩)
    (by kernel_rfl)
#print axioms card
end Go.Proofs.YtppjgofjjcdcdaaDoor.layoutWhole
namespace Go.Proofs.YtppjgofjjcdcdaaDoor
/-- The card, under a short name, for the claim. -/
theorem layoutWhole_holds : Rows.LayoutWholeCardSaid := layoutWhole.card
end Go.Proofs.YtppjgofjjcdcdaaDoor
