/- Why a plan is not good: the program's reasons. -/
import Derived.Test.YtkkajemahehoaaaYr
import Derived.Test.YtkkajemahehoaaaR1
namespace Go.Proofs.Ytkkajemahehoaaa
open Go.RowKit

structure Reason where
  kind : Int
  work : Int
  other : Int
  day : Int
deriving DecidableEq
abbrev Reason.enc (x : Reason) : List Value := [.int .i64 x.kind, .int .i64 x.work, .int .i64 x.other, .int .i64 x.day]
abbrev RdR := @Rd Reason Reason.enc 4
theorem reason_len (x : Reason) : x.enc.length = 4 := rfl

/-- Does a work not start on one of its days? -/
def wrongB (s : Int) (x : Work) : Bool := outB s x.frm x.til || ((s - x.frm) % x.step != 0)
def wrongAt (t : Task) (ss : List Int) (i : Nat) : List Reason :=
  match ss[i]?, t.works[i]? with
  | some s, some x => if wrongB s x then [⟨1, i, -1, -1⟩] else []
  | _, _ => []
def meetAt (t : Task) (ss : List Int) (i k : Nat) : List Reason := if meetP t ss k i then [⟨2, i, k, -1⟩] else []
def insideAt (t : Task) (ss : List Int) (i : Nat) : List Reason :=
  match ss[i]?, t.works[i]? with
  | some s, some x => if 0 ≤ badF t x s then [⟨3, i, -1, badF t x s⟩] else []
  | _, _ => []
/-- f 0 ++ f 1 ++ .., n of them. -/
def upTo (f : Nat → List Reason) (n : Nat) : List Reason := (List.range n).flatMap f
theorem upTo_succ (f : Nat → List Reason) (n : Nat) : upTo f (n + 1) = upTo f n ++ f n := by
  unfold upTo; rw [List.range_succ, List.flatMap_append]; simp
/-- f (i + 1) ++ f (i + 2) ++ .., below k. -/
def fromTo (f : Nat → List Reason) (i k : Nat) : List Reason := (List.range (k - (i + 1))).flatMap fun j => f (i + 1 + j)
theorem fromTo_succ (f : Nat → List Reason) (i k : Nat) (h : i + 1 ≤ k) : fromTo f i (k + 1) = fromTo f i k ++ f k := by
  unfold fromTo
  rw [show k + 1 - (i + 1) = (k - (i + 1)) + 1 by omega, List.range_succ, List.flatMap_append]
  simp only [List.flatMap_cons, List.flatMap_nil, List.append_nil]
  rw [show i + 1 + (k - (i + 1)) = k by omega]
def wrongL (t : Task) (ss : List Int) : List Reason := upTo (wrongAt t ss) ss.length
def meetsL (t : Task) (ss : List Int) : List Reason := upTo (fun i => fromTo (meetAt t ss i) i ss.length) ss.length
def insideL (t : Task) (ss : List Int) : List Reason := upTo (insideAt t ss) ss.length
def riskyL (t : Task) (ss : List Int) : List Reason := if gtB (harmR t ss) t.plan then [⟨4, -1, -1, -1⟩] else []
def judgeL (t : Task) (ss : List Int) : List Reason := wrongL t ss ++ meetsL t ss ++ insideL t ss ++ riskyL t ss

theorem upTo_len {f : Nat → List Reason} {b : Nat} (h : ∀ i, (f i).length ≤ b) : ∀ n, (upTo f n).length ≤ b * n
  | 0 => by simp [upTo]
  | n + 1 => by rw [upTo_succ, List.length_append, Nat.mul_add]; have := upTo_len h n; have := h n; omega
theorem fromTo_len {f : Nat → List Reason} {b : Nat} (h : ∀ i, (f i).length ≤ b) (i k : Nat) : (fromTo f i k).length ≤ b * k := by
  unfold fromTo
  have : ∀ n, ((List.range n).flatMap fun j => f (i + 1 + j)).length ≤ b * n := fun n => by
    induction n with
    | zero => simp
    | succ n ih =>
      rw [List.range_succ, List.flatMap_append, List.length_append, Nat.mul_add]
      simp only [List.flatMap_cons, List.flatMap_nil, List.append_nil]
      have := h (i + 1 + n)
      omega
  refine Nat.le_trans (this _) (Nat.mul_le_mul_left _ (by omega))
theorem wrongAt_len (t : Task) (ss : List Int) (i : Nat) : (wrongAt t ss i).length ≤ 1 := by unfold wrongAt; split <;> (try split) <;> simp
theorem meetAt_len (t : Task) (ss : List Int) (i k : Nat) : (meetAt t ss i k).length ≤ 1 := by unfold meetAt; split <;> simp
theorem insideAt_len (t : Task) (ss : List Int) (i : Nat) : (insideAt t ss i).length ≤ 1 := by unfold insideAt; split <;> (try split) <;> simp

theorem info77 : (Try.prog.info? 77).map (fun i => (i.zero, i.size, i.bytes)) = some (some (.agg #[.int .i64 0, .int .i64 0, .int .i64 0, .int .i64 0]), 4, 32) := by kernel_rfl
theorem size77 (w : World) : (sizeOf 77).run Try.prog w = .ok 4 w := by kernel_rfl
theorem zero77 (w : World) : (zeroValue 77).run Try.prog w = .ok (.agg #[.int .i64 0, .int .i64 0, .int .i64 0, .int .i64 0]) w := by kernel_rfl

set_option maxHeartbeats 400000 in
theorem reason_any (k i : Int) (w : World) :
    Calls Try.prog 106 #[.int .i64 k, .int .i64 i] w fun e w' => e = .returned (.agg #[.int .i64 k, .int .i64 i, .int .i64 (-1), .int .i64 (-1)]) ∧ Below w.heap.size w w' := by
  go_enter Try.func106, Try.ntmps106
  go_wp2
  exact bodyPost_ret (v := .agg #[.int .i64 k, .int .i64 i, .int .i64 (-1), .int .i64 (-1)]) (by simp [results, Try.results106, go_sem]) rfl ⟨rfl, (Below.refl _ _).alloc (Nat.le_refl _) _⟩

theorem cells_new4 (w : World) (a b c d : Value) (t : TypeId) : ∀ j u, [a, b, c, d][j]? = some u → (w.alloc (.cells #[a, b, c, d] t)).cell? ((⟨w.heap.size, 0, none⟩ : Addr).add j) = some u := fun j u hu => by
  rw [Addr.add_mid]
  exact cell_at_new rfl (by simpa using hu)
theorem one4 (a b c d : Int) : ∀ u ∈ [Value.int .i64 a, .int .i64 b, .int .i64 c, .int .i64 d], u.oneCell' = true := fun u hu => by
  simp at hu
  rcases hu with rfl | rfl | rfl | rfl <;> rfl

def ListPostR (l : List Reason) (w : World) (e : Ending) (w' : World) : Prop :=
  ∃ v, e = .returned v ∧ w'.ownsRow w.heap.size 77 4 v l.length (l.flatMap Reason.enc) ∧ Below w.heap.size w w'

set_option maxRecDepth 100000 in
set_option maxHeartbeats 2000000 in
theorem wrong_any (t : Task) (p : Nat) (A : Option Addr) (n c : Nat) (A' : Option Addr) (n' c' : Nat) (As : Option Addr) (m cs : Nat) (ss : List Int) (w : World) (hP : Pl w p t A n c A' n' c') (hok : TaskOK t) (hs : RdI w As m ss) (hm : m = n') (hss : ∀ s ∈ ss, 0 ≤ s ∧ s ≤ 364) :
    Calls Try.prog 79 #[.pointer (some ⟨p, 0, none⟩), .slice As m cs] w (ListPostR (wrongL t ss) w) := by
  obtain ⟨i0, hi, hz0, hz1, hz2⟩ := info_parts info77
  have hsl := hs.1
  have hm4 : m ≤ 4 := by have := hok.len; have := hP.works.1; omega
  have HWs : Hid (∀ (i : Nat) (v : Work), t.works[i]? = some v → WorkOK v) := fun i v hv => workOK_of (hok.rows i v hv).2.2.1
  have HP := Lib.hid hP; have HSs := Lib.hid hs; have HSr := Lib.hid hss
  have HM : Hid (m = n') := hm
  clear hP hs hss hok hm
  unfold wrongL
  rw [hsl]
  go_enter Try.func79, Try.ntmps79
  go_wp2
  go_loopw [4, 10] (fun v q wr => ∃ k : Nat, k ≤ m ∧ q = .int .i64 k ∧ wr.ownsRow w.heap.size 77 4 v (upTo (wrongAt t ss) k).length ((upTo (wrongAt t ss) k).flatMap Reason.enc) ∧ Below w.heap.size w wr) (fun _ q _ => m - (intOf q).toNat)
  case atStart => exact ⟨0, Nat.zero_le _, rfl, World.ownsRow_nil _ _ _ _, Below.refl _ _⟩
  case round =>
    obtain ⟨k, hk, rfl, hown, hB⟩ := hrel
    have HB := Lib.hid hB; clear hB
    have hul := upTo_len (wrongAt_len t ss) k
    by_cases hlt : k < m
    · obtain ⟨x, ad, hx, rfl, ha⟩ := (HP.out.below HB.out).works.get (i := k) (by have := HM.out; omega)
      obtain ⟨s, sd, hs, rfl, cs0⟩ := rdI_get (HSs.out.below HB.out) hlt
      obtain ⟨c0, c1, c2, c3, c4, c5, c6⟩ := ha.seven
      obtain ⟨Sx, cap, hb, hsea⟩ := (HP.out.below HB.out).blk
      have p3 := hb.cell (i := 3) rfl
      have hpl : p < wr.heap.size := hb.lt
      obtain ⟨d0, d1, u0, u1, f0, f1, t0, t1, _, _⟩ := HWs.out k x hx
      obtain ⟨s0, s1⟩ := HSr.out s (List.mem_of_getElem? hs)
      have HAt : Hid (wrongAt t ss k = if wrongB s x then [⟨1, k, -1, -1⟩] else []) := by unfold wrongAt; rw [hs, hx]; rfl
      have hki : (k : Int) < (m : Int) := by omega
      have hkn : (k : Int) < (n' : Int) := by have := HM.out; omega
      have HSu := Lib.hid (upTo_succ (wrongAt t ss) k)
      clear hsea hb ha hx hs
      cases hw : wrongB s x
      · have HS2 : Hid (upTo (wrongAt t ss) (k + 1) = upTo (wrongAt t ss) k) := by rw [HSu.out, HAt.out, hw]; simp [Hid]
        unfold wrongB at hw
        simp only [Bool.or_eq_false_iff] at hw
        obtain ⟨w1, w2⟩ := hw
        obtain ⟨w3, w4⟩ := outB_false w1
        have w5 : 0 ≤ s - x.frm := by omega
        go_wp2_with (go_at_call 48; refine (out_any _ _ _ _).mono ?_; rintro e w' ⟨rfl, rfl⟩)
        go_roundw
        case rel => exact ⟨k + 1, by omega, by go_num, by rw [HS2.out]; exact hown.alloc _, HB.out.alloc HB.out.size _⟩
        case measure => simp [intOf]; omega
      · have HS2 : Hid (upTo (wrongAt t ss) (k + 1) = upTo (wrongAt t ss) k ++ [⟨1, k, -1, -1⟩]) := by rw [HSu.out, HAt.out, hw]; simp [Hid]
        have hw2 : outB s x.frm x.til = true ∨ (outB s x.frm x.til = false ∧ ((s - x.frm) % x.step != 0) = true) := by
          unfold wrongB at hw
          cases h : outB s x.frm x.til
          · rw [h] at hw; exact .inr ⟨rfl, by simpa using hw⟩
          · exact .inl rfl
        generalize upTo (wrongAt t ss) k = L at *
        rcases hw2 with w1 | ⟨w1, w2⟩
        · go_wp2_with (first | (go_at_call 48; refine (out_any _ _ _ _).mono ?_; rintro e w' ⟨rfl, rfl⟩))
          refine (reason_any _ _ _).mono ?_
          rintro e W3 ⟨rfl, hb3⟩
          have h2 : Below w.heap.size w (wr.alloc (Obj.cells #[.string x.name, .int .i64 x.gate, .int .i64 x.days, .int .i64 x.frm, .int .i64 x.til, .int .i64 x.step, .int .i64 x.level] 61)) := HB.out.alloc HB.out.size _
          have HB3 : Hid (Below w.heap.size w W3) := h2.trans (hb3.mono h2.size)
          have hown3 := (hown.alloc (Obj.cells #[.string x.name, .int .i64 x.gate, .int .i64 x.days, .int .i64 x.frm, .int .i64 x.til, .int .i64 x.step, .int .i64 x.level] 61)).kept (grown_of_below hb3 none) (Classical.em _)
          clear hb3 h2 hown
          go_wp2_with (first | (refine wpList_buildSlice_one rfl 64 77 _ rfl 4 _ #[.int .i64 1, .int .i64 (k : Int), .int .i64 (-1), .int .i64 (-1)] rfl Try.underlying64 (size77 _) (zero77 _) rfl (by omega) (by omega) ?_) | (at_builtin; refine wpList_append_own _ rfl _ _ 64 rfl w.heap.size 77 i0 (.agg #[.int .i64 0, .int .i64 0, .int .i64 0, .int .i64 0]) 4 32 Try.underlying64 hi hz0 hz1 hz2 rfl (by decide) _ _ _ rfl (hown3.alloc _) ⟨W3.heap.size, 0, none⟩ 1 1 [.int .i64 1, .int .i64 (k : Int), .int .i64 (-1), .int .i64 (-1)] rfl rfl (cells_new4 _ _ _ _ _ _) (one4 _ _ _ _) (by unfold maxLen; omega) (by omega) (by have := HB3.out.size; simp; omega) ?_; intro v' w2 hown' hgrow _; have HB4 : Hid (Below w.heap.size w w2) := ((HB3.out.alloc HB3.out.size _).grown hgrow (by have := HB3.out.size; simp; omega) (fun j e => (hown3.lt j e).1)); clear hgrow))
          go_roundw
          case rel => exact ⟨k + 1, by omega, by go_num, by rw [HS2.out, List.length_append, List.flatMap_append]; exact hown', HB4.out⟩
          case measure => simp [intOf]; omega
        · obtain ⟨w3, w4⟩ := outB_false w1
          have w5 : 0 ≤ s - x.frm := by omega
          go_wp2_with (first | (go_at_call 48; refine (out_any _ _ _ _).mono ?_; rintro e w' ⟨rfl, rfl⟩))
          refine (reason_any _ _ _).mono ?_
          rintro e W3 ⟨rfl, hb3⟩
          have h2 : Below w.heap.size w (wr.alloc (Obj.cells #[.string x.name, .int .i64 x.gate, .int .i64 x.days, .int .i64 x.frm, .int .i64 x.til, .int .i64 x.step, .int .i64 x.level] 61)) := HB.out.alloc HB.out.size _
          have HB3 : Hid (Below w.heap.size w W3) := h2.trans (hb3.mono h2.size)
          have hown3 := (hown.alloc (Obj.cells #[.string x.name, .int .i64 x.gate, .int .i64 x.days, .int .i64 x.frm, .int .i64 x.til, .int .i64 x.step, .int .i64 x.level] 61)).kept (grown_of_below hb3 none) (Classical.em _)
          clear hb3 h2 hown
          go_wp2_with (first | (refine wpList_buildSlice_one rfl 64 77 _ rfl 4 _ #[.int .i64 1, .int .i64 (k : Int), .int .i64 (-1), .int .i64 (-1)] rfl Try.underlying64 (size77 _) (zero77 _) rfl (by omega) (by omega) ?_) | (at_builtin; refine wpList_append_own _ rfl _ _ 64 rfl w.heap.size 77 i0 (.agg #[.int .i64 0, .int .i64 0, .int .i64 0, .int .i64 0]) 4 32 Try.underlying64 hi hz0 hz1 hz2 rfl (by decide) _ _ _ rfl (hown3.alloc _) ⟨W3.heap.size, 0, none⟩ 1 1 [.int .i64 1, .int .i64 (k : Int), .int .i64 (-1), .int .i64 (-1)] rfl rfl (cells_new4 _ _ _ _ _ _) (one4 _ _ _ _) (by unfold maxLen; omega) (by omega) (by have := HB3.out.size; simp; omega) ?_; intro v' w2 hown' hgrow _; have HB4 : Hid (Below w.heap.size w w2) := ((HB3.out.alloc HB3.out.size _).grown hgrow (by have := HB3.out.size; simp; omega) (fun j e => (hown3.lt j e).1)); clear hgrow))
          go_roundw
          case rel => exact ⟨k + 1, by omega, by go_num, by rw [HS2.out, List.length_append, List.flatMap_append]; exact hown', HB4.out⟩
          case measure => simp [intOf]; omega
    · obtain rfl : m = k := by omega
      go_wp2
      go_ret
      exact ⟨_, rfl, hown, HB.out⟩
set_option maxRecDepth 100000 in
set_option maxHeartbeats 2000000 in
theorem inside_any (t : Task) (p : Nat) (A : Option Addr) (n c : Nat) (A' : Option Addr) (n' c' : Nat) (As : Option Addr) (m cs : Nat) (ss : List Int) (w : World) (hP : Pl w p t A n c A' n' c') (hok : TaskOK t) (hs : RdI w As m ss) (hm : m = n') (hss : ∀ s ∈ ss, 0 ≤ s ∧ s ≤ 364) :
    Calls Try.prog 81 #[.pointer (some ⟨p, 0, none⟩), .slice As m cs] w (ListPostR (insideL t ss) w) := by
  obtain ⟨i0, hi, hz0, hz1, hz2⟩ := info_parts info77
  have hsl := hs.1
  have hm4 : m ≤ 4 := by have := hok.len; have := hP.works.1; omega
  have HWs : Hid (∀ (i : Nat) (v : Work), t.works[i]? = some v → WorkOK v) := fun i v hv => workOK_of (hok.rows i v hv).2.2.1
  have HP := Lib.hid hP; have HSs := Lib.hid hs; have HSr := Lib.hid hss
  have HM : Hid (m = n') := hm
  clear hP hs hss hok hm
  unfold insideL
  rw [hsl]
  go_enter Try.func81, Try.ntmps81
  go_wp2
  go_loopw [4, 11] (fun v q wr => ∃ k : Nat, k ≤ m ∧ q = .int .i64 k ∧ wr.ownsRow w.heap.size 77 4 v (upTo (insideAt t ss) k).length ((upTo (insideAt t ss) k).flatMap Reason.enc) ∧ Below w.heap.size w wr) (fun _ q _ => m - (intOf q).toNat)
  case atStart => exact ⟨0, Nat.zero_le _, rfl, World.ownsRow_nil _ _ _ _, Below.refl _ _⟩
  case round =>
    obtain ⟨k, hk, rfl, hown, hB⟩ := hrel
    have HB := Lib.hid hB; clear hB
    have hul := upTo_len (insideAt_len t ss) k
    by_cases hlt : k < m
    · obtain ⟨x, ad, hx, _, _⟩ := (HP.out.below HB.out).works.get (i := k) (by have := HM.out; omega)
      obtain ⟨s, sd, hs, rfl, cs0⟩ := rdI_get (HSs.out.below HB.out) hlt
      have hwk := HWs.out k x hx
      obtain ⟨s0, s1⟩ := HSr.out s (List.mem_of_getElem? hs)
      have HBd := Lib.hid (bad_any t p A n c A' n' c' k x s wr (HP.out.below HB.out) hx (by have := hwk.d0; omega) (by have := hwk.d1; omega) s0 (by omega))
      have HAt : Hid (insideAt t ss k = if 0 ≤ badF t x s then [⟨3, k, -1, badF t x s⟩] else []) := by unfold insideAt; rw [hs, hx]; rfl
      have hki : (k : Int) < (m : Int) := by omega
      have HSu := Lib.hid (upTo_succ (insideAt t ss) k)
      clear hx hs hwk
      generalize badF t x s = bd at *
      by_cases hb : 0 ≤ bd
      · have hb' : decide (0 ≤ bd) = true := by simpa using hb
        have HS2 : Hid (upTo (insideAt t ss) (k + 1) = upTo (insideAt t ss) k ++ [⟨3, k, -1, bd⟩]) := by rw [HSu.out, HAt.out, if_pos hb]; rfl
        generalize upTo (insideAt t ss) k = L at *
        go_wp2_with (go_at_call 95; refine HBd.out.mono ?_; rintro e w' ⟨rfl, rfl⟩)
        refine (reason_any _ _ _).mono ?_
        rintro e W3 ⟨rfl, hb3⟩
        have HB3 : Hid (Below w.heap.size w W3) := HB.out.trans (hb3.mono HB.out.size)
        have hown3 := (hown.kept (grown_of_below hb3 none) (Classical.em _)).alloc (Obj.cells #[.int .i64 3, .int .i64 (k : Int), .int .i64 (-1), .int .i64 bd] 77)
        have HB5 : Hid (Below w.heap.size w (W3.alloc (Obj.cells #[.int .i64 3, .int .i64 (k : Int), .int .i64 (-1), .int .i64 bd] 77))) := HB3.out.alloc HB3.out.size _
        clear hb3 hown
        go_wp2_with (first | (refine wpList_buildSlice_one rfl 64 77 _ rfl 4 _ #[.int .i64 3, .int .i64 (k : Int), .int .i64 (-1), .int .i64 bd] rfl Try.underlying64 (size77 _) (zero77 _) rfl (by omega) (by omega) ?_) | (at_builtin; refine wpList_append_own _ rfl _ _ 64 rfl w.heap.size 77 i0 (.agg #[.int .i64 0, .int .i64 0, .int .i64 0, .int .i64 0]) 4 32 Try.underlying64 hi hz0 hz1 hz2 rfl (by decide) _ _ _ rfl (hown3.alloc _) ⟨(W3.alloc (Obj.cells #[.int .i64 3, .int .i64 (k : Int), .int .i64 (-1), .int .i64 bd] 77)).heap.size, 0, none⟩ 1 1 [.int .i64 3, .int .i64 (k : Int), .int .i64 (-1), .int .i64 bd] rfl rfl (cells_new4 _ _ _ _ _ _) (one4 _ _ _ _) (by unfold maxLen; omega) (by omega) (by have := HB3.out.size; simp; omega) ?_; intro v' w2 hown' hgrow _; have HB4 : Hid (Below w.heap.size w w2) := ((HB5.out.alloc HB5.out.size _).grown hgrow (by have := HB5.out.size; simp at this; simp; omega) (fun j e => (hown3.lt j e).1)); clear hgrow))
        go_roundw
        case rel => exact ⟨k + 1, by omega, by go_num, by rw [HS2.out, List.length_append, List.flatMap_append]; exact hown', HB4.out⟩
        case measure => simp [intOf]; omega
      · have hb' : decide (0 ≤ bd) = false := by simpa using hb
        have HS2 : Hid (upTo (insideAt t ss) (k + 1) = upTo (insideAt t ss) k) := by rw [HSu.out, HAt.out, if_neg hb]; simp [Hid]
        generalize upTo (insideAt t ss) k = L at *
        go_wp2_with (go_at_call 95; refine HBd.out.mono ?_; rintro e w' ⟨rfl, rfl⟩)
        go_roundw
        case rel => exact ⟨k + 1, by omega, by go_num, by rw [HS2.out]; exact hown, HB.out⟩
        case measure => simp [intOf]; omega
    · obtain rfl : m = k := by omega
      go_wp2
      go_ret
      exact ⟨_, rfl, hown, HB.out⟩

set_option maxRecDepth 100000 in
set_option maxHeartbeats 2000000 in
theorem risky_any (t : Task) (p : Nat) (A : Option Addr) (n c : Nat) (A' : Option Addr) (n' c' : Nat) (As : Option Addr) (m cs : Nat) (ss : List Int) (w : World) (hP : Pl w p t A n c A' n' c') (hok : TaskOK t) (hs : RdI w As m ss) (hm : m = n') (hss : ∀ s ∈ ss, 0 ≤ s ∧ s ≤ 364) :
    Calls Try.prog 82 #[.pointer (some ⟨p, 0, none⟩), .slice As m cs] w (ListPostR (riskyL t ss) w) := by
  have HH := Lib.hid (harm_any t p A n c A' n' c' As m cs ss w hP hok hs hm hss)
  obtain ⟨h1, h2, h3, h4⟩ := harmR_bounds hok ss
  obtain ⟨⟨p0, p1⟩, p2, p3⟩ := hok.plan
  obtain ⟨Sx, cap, hb, hsea⟩ := hP.blk
  have HBk := Lib.hid hb
  have HRL : Hid (riskyL t ss = if decide (0 < cmpF (harmR t ss) t.plan) then [⟨4, -1, -1, -1⟩] else []) := by rw [cmp_gt]; rfl
  clear hP hok hs hm hss hb hsea
  have HP1 : Hid (cmpF (harmR t ss) t.plan = cmpF ((harmR t ss).1, (harmR t ss).2) t.plan) := rfl
  rw [HRL.out, HP1.out]
  clear HRL HP1
  unfold HarmPost at HH
  generalize (harmR t ss).1 = r1 at *
  generalize (harmR t ss).2 = r2 at *
  generalize hqq : cmpF (r1, r2) t.plan = q
  have HQ := Lib.hid hqq; clear hqq
  generalize hq : decide (0 < q) = bq
  cases bq
  all_goals simp only [if_true, if_false, Bool.false_eq_true]
  all_goals
   go_enter Try.func82, Try.ntmps82
   go_wp2_with fail
   refine HH.out.mono ?_
   rintro e W2 ⟨v, rfl, _, hb2⟩
   have HB2 := Lib.hid hb2
   clear hb2
   go_wp2_with fail
   obtain ⟨W3, hW3⟩ : ∃ W3, W2.alloc (Obj.cells #[.int .i64 r1, .int .i64 r2] 83) = W3 := ⟨_, rfl⟩
   have hb3 : Below W2.heap.size W2 W3 := by rw [← hW3]; exact (Below.refl _ _).alloc (Nat.le_refl _) _
   have K3 : Blk W3 W2.heap.size 83 #[.int .i64 r1, .int .i64 r2] := by rw [← hW3]; exact Blk.new _ _ _ rfl
   rw [hW3]
   have HB3 : Hid (Below w.heap.size w W3) := HB2.out.trans (hb3.mono HB2.out.size)
   have KP := (HBk.out.later HB2.out).later hb3
   have q0 := later_cell (K3.cell (i := 0) rfl)
   have q1 := later_cell (K3.cell (i := 1) rfl)
   have q2 := later_cell (KP.cell (i := 8) rfl)
   have q3 := later_cell (KP.cell (i := 9) rfl)
   have HCm : Hid (∀ u : Later W3, Calls Try.prog 62 #[.agg #[.int .i64 r1, .int .i64 r2], .agg #[.int .i64 t.plan.1, .int .i64 t.plan.2]] u.w fun e w' => e = .returned (.int .i64 (cmpF (r1, r2) t.plan)) ∧ Below u.w.heap.size u.w w') := fun u => compare_any r1 r2 t.plan.1 t.plan.2 u.w (by omega) (by omega) (by omega) (by omega) (by omega) (by omega) (by omega) (by omega)
   clear hW3 hb3 K3 KP
   rw [HQ.out] at HCm
   refine wp_region_later (by kernel_rfl) (by kernel_rfl) ?_
   repeat (first | go_big_quiet_skip | (go_big_quiet_want; go_big_quiet_op; first | go_big_quiet_on | (apply Exists.intro; refine ⟨fun _ => ?_, ?_⟩; (· (with_reducible exact later_calls (HCm.out _))); go_big_quiet_on)))
   refine wpQuiet_nil ?_
   intro _ hw'
   obtain ⟨u, hu⟩ := hw'
   subst hu
   clear q0 q1 q2 q3
   have HBu : Hid (Below w.heap.size w u.w) := HB3.out.trans (u.h.mono HB3.out.size)
  · go_wp2
    go_ret
    exact ⟨_, rfl, World.ownsRow_nil _ _ _ _, HBu.out⟩
  · go_wp2_with fail
    refine (reason_any _ _ _).mono ?_
    rintro e W5 ⟨rfl, hb5⟩
    have HB5 : Hid (Below w.heap.size w W5) := HBu.out.trans (hb5.mono HBu.out.size)
    clear hb5
    go_wp2_with (refine wpList_buildSlice_one rfl 64 77 _ rfl 4 _ #[.int .i64 4, .int .i64 (-1), .int .i64 (-1), .int .i64 (-1)] rfl Try.underlying64 (size77 _) (zero77 _) rfl (by omega) (by omega) ?_)
    go_ret
    exact ⟨_, rfl, World.ownsRow_lit (base := w.heap.size) (e := 77) (size := 4) W5 #[.int .i64 4, .int .i64 (-1), .int .i64 (-1), .int .i64 (-1)] 1 HB5.out.size (by unfold maxLen; omega) rfl, HB5.out.alloc HB5.out.size _⟩

set_option maxRecDepth 100000 in
set_option maxHeartbeats 2000000 in
theorem meetsL_any (t : Task) (p : Nat) (A : Option Addr) (n c : Nat) (A' : Option Addr) (n' c' : Nat) (As : Option Addr) (m cs : Nat) (ss : List Int) (w : World) (hP : Pl w p t A n c A' n' c') (hok : TaskOK t) (hs : RdI w As m ss) (hm : m = n') (hss : ∀ s ∈ ss, 0 ≤ s ∧ s ≤ 364) :
    Calls Try.prog 80 #[.pointer (some ⟨p, 0, none⟩), .slice As m cs] w (ListPostR (meetsL t ss) w) := by
  obtain ⟨i0, hi, hz0, hz1, hz2⟩ := info_parts info77
  have hsl := hs.1
  have hm4 : m ≤ 4 := by have := hok.len; have := hP.works.1; omega
  have HWs : Hid (∀ (i : Nat) (v : Work), t.works[i]? = some v → WorkOK v) := fun i v hv => workOK_of (hok.rows i v hv).2.2.1
  have HGap := Lib.hid hok.gap
  have HP := Lib.hid hP; have HSs := Lib.hid hs; have HSr := Lib.hid hss
  have HM : Hid (m = n') := hm
  have HMt : Hid (∀ (i k : Nat) (W : World), i < m → k < m → Below w.heap.size w W → Calls Try.prog 65 #[.pointer (some ⟨p, 0, none⟩), .slice As m cs, .int .i64 (i : Int), .int .i64 (k : Int)] W fun e w' => e = .returned (.bool (meetP t ss k i)) ∧ Below W.heap.size W w') := fun i k W hi hk hW => by
    have hwl := HP.out.works.1
    have a1 := List.getElem?_eq_getElem (show i < ss.length by omega)
    have a2 := List.getElem?_eq_getElem (show k < ss.length by omega)
    have a3 := List.getElem?_eq_getElem (show i < t.works.length by omega)
    have a4 := List.getElem?_eq_getElem (show k < t.works.length by omega)
    have s1 := HSr.out _ (List.mem_of_getElem? a1)
    have s2 := HSr.out _ (List.mem_of_getElem? a2)
    have w1 := HWs.out _ _ a3
    have w2 := HWs.out _ _ a4
    have h := meet_any t p A n c A' n' c' As m cs ss i k _ _ _ _ W (HP.out.below hW) (HSs.out.below hW) a1 a3 a2 a4 s1.1 (by omega) s2.1 (by omega) (by have := w1.d0; omega) (by have := w1.d1; omega) (by have := w2.d0; omega) (by have := w2.d1; omega) HGap.out.1 (by have := HGap.out.2; omega)
    have e : meetP t ss k i = mB t.gap ss[i] t.works[i].days ss[k] t.works[k].days := by unfold meetP; rw [a1, a2, a3, a4]
    rw [e]
    exact h
  clear hP hs hss hok hm
  unfold meetsL
  rw [hsl]
  generalize hF : (fun i => fromTo (meetAt t ss i) i m) = F
  have HF : Hid (∀ i, F i = fromTo (meetAt t ss i) i m) := fun i => by rw [← hF]
  have HFl : Hid (∀ i, (F i).length ≤ m) := fun i => by rw [HF.out i]; have := fromTo_len (meetAt_len t ss i) i m; omega
  clear hF
  go_enter Try.func80, Try.ntmps80
  go_wp2
  go_loopw [4, 10] (fun v q wr => ∃ k : Nat, k ≤ m ∧ q = .int .i64 k ∧ wr.ownsRow w.heap.size 77 4 v (upTo F k).length ((upTo F k).flatMap Reason.enc) ∧ Below w.heap.size w wr) (fun _ q _ => m - (intOf q).toNat)
  case atStart => exact ⟨0, Nat.zero_le _, rfl, World.ownsRow_nil _ _ _ _, Below.refl _ _⟩
  case round =>
    obtain ⟨k, hk, rfl, hown, hB⟩ := hrel
    have HB := Lib.hid hB; clear hB
    have HOw := Lib.hid hown; clear hown
    have hul := upTo_len HFl.out k
    have hul2 : (upTo F k).length ≤ 16 := Nat.le_trans hul (Nat.mul_le_mul hm4 (by omega : k ≤ 4))
    clear hul
    have HSu := Lib.hid (upTo_succ F k)
    by_cases hlt : k < m
    · have hki : (k : Int) < (m : Int) := by omega
      generalize upTo F k = L at *
      obtain ⟨wo, rfl⟩ : ∃ wo : World, wo = wr := ⟨_, rfl⟩
      go_wp2
      go_loopw [4, 6] (fun v q wr => ∃ j : Nat, k + 1 ≤ j ∧ j ≤ m ∧ q = .int .i64 j ∧ wr.ownsRow w.heap.size 77 4 v (L ++ fromTo (meetAt t ss k) k j).length ((L ++ fromTo (meetAt t ss k) k j).flatMap Reason.enc) ∧ Below w.heap.size w wr) (fun _ q _ => m - (intOf q).toNat)
      case atStart => exact ⟨k + 1, Nat.le_refl _, by omega, by go_num, by unfold fromTo; simp; exact HOw.out, HB.out⟩
      case round =>
        obtain ⟨j, hj0, hj, rfl, hown, hB⟩ := hrel
        have HBj := Lib.hid hB; clear hB
        have hfl := fromTo_len (meetAt_len t ss k) k j
        have hfs := Lib.hid (fromTo_succ (meetAt t ss k) k j hj0)
        by_cases hjt : j < m
        · have hji : (j : Int) < (m : Int) := by omega
          have HAt : Hid (meetAt t ss k j = if meetP t ss j k then [⟨2, k, j, -1⟩] else []) := rfl
          have HC := Lib.hid (HMt.out k j wr hlt hjt HBj.out)
          cases hmt : meetP t ss j k
          · have HS2 : Hid (L ++ fromTo (meetAt t ss k) k (j + 1) = L ++ fromTo (meetAt t ss k) k j) := by rw [hfs.out, HAt.out, hmt]; simp [Hid]
            rw [hmt] at HC
            go_wp2_with fail
            refine HC.out.mono ?_
            rintro e W3 ⟨rfl, hb3⟩
            have HB3 : Hid (Below w.heap.size w W3) := HBj.out.trans (hb3.mono HBj.out.size)
            have hown3 := hown.kept (grown_of_below hb3 none) (Classical.em _)
            clear hb3 hown
            go_wp2_with fail
            go_roundw
            case rel => exact ⟨j + 1, by omega, by omega, by go_num, by rw [HS2.out]; exact hown3, HB3.out⟩
            case measure => simp [intOf]; omega
          · have HS2 : Hid (L ++ fromTo (meetAt t ss k) k (j + 1) = (L ++ fromTo (meetAt t ss k) k j) ++ [⟨2, k, j, -1⟩]) := by rw [hfs.out, HAt.out, hmt]; simp [Hid]
            rw [hmt] at HC
            have hLl : (L ++ fromTo (meetAt t ss k) k j).length ≤ 20 := by rw [List.length_append]; omega
            generalize L ++ fromTo (meetAt t ss k) k j = M at *
            go_wp2_with fail
            refine HC.out.mono ?_
            rintro e W2 ⟨rfl, hb2⟩
            have HB2 : Hid (Below w.heap.size w W2) := HBj.out.trans (hb2.mono HBj.out.size)
            have hown2 := hown.kept (grown_of_below hb2 none) (Classical.em _)
            clear hb2 hown
            go_wp2_with fail
            refine (reason_any _ _ _).mono ?_
            rintro e W3 ⟨rfl, hb3⟩
            have HB3 : Hid (Below w.heap.size w W3) := HB2.out.trans (hb3.mono HB2.out.size)
            have hown3 := (hown2.kept (grown_of_below hb3 none) (Classical.em _)).alloc (Obj.cells #[.int .i64 2, .int .i64 (k : Int), .int .i64 (j : Int), .int .i64 (-1)] 77)
            have HB5 : Hid (Below w.heap.size w (W3.alloc (Obj.cells #[.int .i64 2, .int .i64 (k : Int), .int .i64 (j : Int), .int .i64 (-1)] 77))) := HB3.out.alloc HB3.out.size _
            clear hb3 hown2
            go_wp2_with (first | (refine wpList_buildSlice_one rfl 64 77 _ rfl 4 _ #[.int .i64 2, .int .i64 (k : Int), .int .i64 (j : Int), .int .i64 (-1)] rfl Try.underlying64 (size77 _) (zero77 _) rfl (by omega) (by omega) ?_) | (at_builtin; refine wpList_append_own _ rfl _ _ 64 rfl w.heap.size 77 i0 (.agg #[.int .i64 0, .int .i64 0, .int .i64 0, .int .i64 0]) 4 32 Try.underlying64 hi hz0 hz1 hz2 rfl (by decide) _ _ _ rfl (hown3.alloc _) ⟨(W3.alloc (Obj.cells #[.int .i64 2, .int .i64 (k : Int), .int .i64 (j : Int), .int .i64 (-1)] 77)).heap.size, 0, none⟩ 1 1 [.int .i64 2, .int .i64 (k : Int), .int .i64 (j : Int), .int .i64 (-1)] rfl rfl (cells_new4 _ _ _ _ _ _) (one4 _ _ _ _) (by unfold maxLen; omega) (by omega) (by have := HB3.out.size; simp; omega) ?_; intro v' w2 hown' hgrow _; have HB4 : Hid (Below w.heap.size w w2) := ((HB5.out.alloc HB5.out.size _).grown hgrow (by have := HB5.out.size; simp at this; simp; omega) (fun j e => (hown3.lt j e).1)); clear hgrow))
            go_roundw
            case rel => exact ⟨j + 1, by omega, by omega, by go_num, by rw [HS2.out, List.length_append, List.flatMap_append]; exact hown', HB4.out⟩
            case measure => simp [intOf]; omega
        · obtain rfl : m = j := by omega
          go_wp2
          go_roundw
          case rel => exact ⟨k + 1, by omega, by go_num, by rw [HSu.out, HF.out]; exact hown, HBj.out⟩
          case measure => simp [intOf]; omega
    · obtain rfl : m = k := by omega
      have hown := HOw.out
      go_wp2
      go_ret
      exact ⟨_, rfl, hown, HB.out⟩
end Go.Proofs.Ytkkajemahehoaaa
