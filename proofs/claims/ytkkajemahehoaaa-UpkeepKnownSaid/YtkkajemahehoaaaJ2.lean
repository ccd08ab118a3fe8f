/- Judge. -/
import Derived.Test.YtkkajemahehoaaaJ1
import Derived.Laws.AppendOwnNone
namespace Go.Proofs.Ytkkajemahehoaaa
open Go.RowKit

theorem own_cells {w : World} {base : Nat} {e : TypeId} {size g m cap : Nat} {news : List Value} (h : w.ownsRow base e size (.slice (some ⟨g, 0, none⟩) m cap) m news) : ∀ j u, news[j]? = some u → w.cell? ((⟨g, 0, none⟩ : Addr).add j) = some u := fun j u hu => by
  rcases h.2 with ⟨h0, _⟩ | ⟨g', cap', cur, h1, _, h3, _, _, _, h7⟩
  · cases h0
  · cases h1
    rw [Addr.add_mid]
    unfold World.cell?
    rw [h3]
    rw [← h7] at hu
    have hj : j < m * size := by
      have := (List.getElem?_eq_some_iff.1 hu).1
      rw [List.length_take] at this
      omega
    rw [List.getElem?_take_of_lt hj] at hu
    simpa using hu

/-- append(v, u...), v and u rows of the call's own, or nil. -/
theorem wpList_append_row {P : Program} {w : World} {ops : Array Oper} {rest : List Oper} {o : Oper} {a : Act} {Q : Exit → Act → World → Prop} (hgd : o.guard = none) (s x : Operand) (t : TypeId)
    (ho : o.op = .call { callee := .builtin .append, args := #[s, x], argTypes := #[t, t] })
    (base : Nat) (e : TypeId) (i : TypeInfo) (z : Value) (size bytes : Nat) (ht : P.underlying t = some (.slice e)) (hi : P.info? e = some i) (hz : i.zero = some z)
    (hsize : i.size = size) (hby : i.bytes = bytes) (hzs : z.cells.size = size) (hsz : 0 < size)
    (v : Value) (n : Nat) (xs : List Value) (hs : a.eval s = v) (hown : w.ownsRow base e size v n xs)
    (u : Value) (base' m : Nat) (news : List Value) (hx : a.eval x = u) (hu : w.ownsRow base' e size u m news) (h1 : ∀ y ∈ news, y.oneCell' = true)
    (h63 : n + m ≤ maxLen) (hbytes : (n + m) * bytes ≤ 140737488355328) (hbase : base ≤ w.heap.size)
    (h : ∀ v' w', w'.ownsRow base e size v' (n + m) (xs ++ news) → w.grownBy w' v.ownBlock → wpList P ops Q rest (a.put o.dst v') w') : wpList P ops Q (o :: rest) a w := by
  have hu' := hu
  rcases hu'.2 with ⟨rfl, rfl⟩ | ⟨g, cap, cur, rfl, _⟩
  · have hn : news = [] := List.eq_nil_of_length_eq_zero (by simpa using hu.1)
    subst hn
    refine wpList_append_own_none hgd s x t ho base e i size ht hi v n xs hs hown hx (h v w (by simpa using hown) ⟨rfl, rfl, rfl, Nat.le_refl _, fun _ _ _ => rfl⟩)
  · exact wpList_append_own w hgd s x t ho base e i z size bytes ht hi hz hsize hby hzs hsz v n xs hs hown ⟨g, 0, none⟩ m cap news hx hu.1 (own_cells hu) h1 h63 hbytes hbase (fun v' w' h2 h3 _ => h v' w' h2 h3)

theorem reason_one (l : List Reason) : ∀ u ∈ l.flatMap Reason.enc, u.oneCell' = true := fun u hu => by
  rw [List.mem_flatMap] at hu
  obtain ⟨x, _, h⟩ := hu
  exact one4 _ _ _ _ u h

def partL (t : Task) (ss : List Int) : Nat → List Reason
  | 0 => wrongL t ss
  | 1 => meetsL t ss
  | 2 => insideL t ss
  | _ => riskyL t ss
theorem judge_upTo (t : Task) (ss : List Int) : upTo (partL t ss) 4 = judgeL t ss := by
  unfold upTo judgeL
  simp [List.range_succ, partL]
theorem part_len (t : Task) (ss : List Int) (h : ss.length ≤ 4) (k : Nat) : (partL t ss k).length ≤ 100 := by
  have h1 := upTo_len (wrongAt_len t ss) ss.length
  have h2 := upTo_len (insideAt_len t ss) ss.length
  have h3 := upTo_len (f := fun i => fromTo (meetAt t ss i) i ss.length) (b := 4) (fun i => by have := fromTo_len (meetAt_len t ss i) i ss.length; omega) ss.length
  match k with
  | 0 => show (wrongL t ss).length ≤ 100; unfold wrongL; omega
  | 1 => show (meetsL t ss).length ≤ 100; unfold meetsL; omega
  | 2 => show (insideL t ss).length ≤ 100; unfold insideL; omega
  | k + 3 => show (riskyL t ss).length ≤ 100; unfold riskyL; split <;> simp

theorem index4 (a b c d : Value) (j : Nat) (hj : j < 4) (w : World) : (Instr.index 115 (.agg #[a, b, c, d]) (.int .i64 (j : Int))).run Try.prog w = .ok (if j = 0 then a else if j = 1 then b else if j = 2 then c else d) w := by
  rcases (by omega : j = 0 ∨ j = 1 ∨ j = 2 ∨ j = 3) with rfl | rfl | rfl | rfl <;> kernel_rfl

def JudgePost (t : Task) (ss : List Int) (w : World) (e : Ending) (w' : World) : Prop :=
  Below w.heap.size w w' ∧ ((shErr t ss ≠ 0 ∧ e = .returned (.tuple #[.slice none 0 0, .int .i64 (shErr t ss)])) ∨ (shErr t ss = 0 ∧ ∃ v, e = .returned (.tuple #[v, .int .i64 0]) ∧ w'.ownsRow w.heap.size 77 4 v (judgeL t ss).length ((judgeL t ss).flatMap Reason.enc)))

set_option maxRecDepth 100000 in
set_option maxHeartbeats 4000000 in
theorem Judge_any (t : Task) (ss : List Int) (A : Option Addr) (n c : Nat) (A' : Option Addr) (n' c' : Nat) (As : Option Addr) (m cs : Nat) (w : World) (hT : TkM w t A n c A' n' c') (hs : RdI w As m ss) :
    Calls Try.prog 34 #[.agg (t.val A n c A' n' c'), .slice As m cs] w (JudgePost t ss w) := by
  obtain ⟨i0, hi, hz0, hz1, hz2⟩ := info_parts info77
  have HB1 : Hid (Below w.heap.size w (w.alloc (.cells (t.val A n c A' n' c') 29))) := (Below.refl _ _).alloc (Nat.le_refl _) _
  have HC := Lib.hid (with_any t ss A n c A' n' c' As m cs _ (hT.below HB1.out) (hs.below HB1.out))
  have hsl := hs.1
  have HM : Hid (shErr t ss = 0 → m = n' ∧ m ≤ 4) := fun h => by have := hT.hw.1; have := (planOK_of h).len; have := (taskOK_of (planOK_of h).chk).len; omega
  have HSs := Lib.hid hs
  clear hT hs
  unfold Task.val at *
  go_enter Try.func34, Try.ntmps34
  go_wp2_with fail
  refine HC.out.mono ?_
  rintro e W2 ⟨hb2, hp⟩
  have HB2 : Hid (Below w.heap.size w W2) := HB1.out.trans (hb2.mono HB1.out.size)
  clear hb2
  rcases hp with ⟨hne, rfl⟩ | ⟨heq, p, rfl, hP⟩
  · have HNe := Lib.hid hne
    have hXb : (shErr t ss != 0) = true := by simpa using hne
    have HPost : Hid (∀ w', Below w.heap.size w w' → JudgePost t ss w (.returned (.tuple #[.slice none 0 0, .int .i64 (shErr t ss)])) w') := fun w' h => ⟨h, .inl ⟨hne, rfl⟩⟩
    clear hne
    go_wp2_with fail
    go_ret2
    exact HPost.out _ HB2.out
  · have hok := taskOK_of (planOK_of heq).chk
    have hdays := (planOK_of heq).days
    obtain ⟨hmn, hm4⟩ := HM.out heq
    have HCk : Hid (∀ (k : Nat) (W : World), k < 4 → Below W2.heap.size W2 W → Calls Try.prog (79 + k) #[.pointer (some ⟨p, 0, none⟩), .slice As m cs] W (ListPostR (partL t ss k) W)) := fun k W hk hW => by
      have hP' := hP.below hW
      have hs' := (HSs.out.below HB2.out).below hW
      rcases (by omega : k = 0 ∨ k = 1 ∨ k = 2 ∨ k = 3) with rfl | rfl | rfl | rfl
      · exact wrong_any t p A n c A' n' c' As m cs ss W hP' hok hs' hmn hdays
      · exact meetsL_any t p A n c A' n' c' As m cs ss W hP' hok hs' hmn hdays
      · exact inside_any t p A n c A' n' c' As m cs ss W hP' hok hs' hmn hdays
      · exact risky_any t p A n c A' n' c' As m cs ss W hP' hok hs' hmn hdays
    have HFin : Hid (∀ (v : Value) (w' : World), Below w.heap.size w w' → w'.ownsRow w.heap.size 77 4 v (upTo (partL t ss) 4).length ((upTo (partL t ss) 4).flatMap Reason.enc) → JudgePost t ss w (.returned (.tuple #[v, .int .i64 0])) w') := fun v w' h1 h2 => ⟨h1, .inr ⟨heq, v, rfl, by rw [← judge_upTo]; exact h2⟩⟩
    have HPl := Lib.hid (part_len t ss (by omega))
    clear hP hok hdays heq hmn
    generalize partL t ss = F at *
    have hix := index4 (.func (.func 79) #[.pointer (some ⟨p, 0, none⟩)] #[]) (.func (.func 80) #[.pointer (some ⟨p, 0, none⟩)] #[]) (.func (.func 81) #[.pointer (some ⟨p, 0, none⟩)] #[]) (.func (.func 82) #[.pointer (some ⟨p, 0, none⟩)] #[])
    have HIx := Lib.hid hix
    clear hix
    go_wp2_with fail
    go_loopw [4, 27] (fun v q wr => ∃ k : Nat, k ≤ 4 ∧ q = .int .i64 k ∧ wr.ownsRow W2.heap.size 77 4 v (upTo F k).length ((upTo F k).flatMap Reason.enc) ∧ Below W2.heap.size W2 wr) (fun _ q _ => 4 - (intOf q).toNat)
    case atStart => exact ⟨0, Nat.zero_le _, rfl, World.ownsRow_nil _ _ _ _, Below.refl _ _⟩
    case round =>
      obtain ⟨k, hk, rfl, hown, hB⟩ := hrel
      have HB := Lib.hid hB; clear hB
      have hul := upTo_len HPl.out k
      have hpl := HPl.out k
      have HSu := Lib.hid (upTo_succ F k)
      by_cases hlt : k < 4
      · have hki : (k : Int) < 4 := by omega
        have hix := HIx.out k hlt
        have HCw := Lib.hid (HCk.out k wr hlt HB.out)
        have HOw := Lib.hid hown
        clear hown
        have hcase : (k = 0 ∧ 79 + k = 79 ∧ ∀ a b c d : Value, (if k = 0 then a else if k = 1 then b else if k = 2 then c else d) = a) ∨ (k = 1 ∧ 79 + k = 80 ∧ ∀ a b c d : Value, (if k = 0 then a else if k = 1 then b else if k = 2 then c else d) = b) ∨ (k = 2 ∧ 79 + k = 81 ∧ ∀ a b c d : Value, (if k = 0 then a else if k = 1 then b else if k = 2 then c else d) = c) ∨ (k = 3 ∧ 79 + k = 82 ∧ ∀ a b c d : Value, (if k = 0 then a else if k = 1 then b else if k = 2 then c else d) = d) := by
          rcases (by omega : k = 0 ∨ k = 1 ∨ k = 2 ∨ k = 3) with rfl | rfl | rfl | rfl
          · exact .inl ⟨rfl, rfl, fun _ _ _ _ => rfl⟩
          · exact .inr (.inl ⟨rfl, rfl, fun _ _ _ _ => rfl⟩)
          · exact .inr (.inr (.inl ⟨rfl, rfl, fun _ _ _ _ => rfl⟩))
          · exact .inr (.inr (.inr ⟨rfl, rfl, fun _ _ _ _ => rfl⟩))
        rcases hcase with ⟨e0, e1, n0⟩ | ⟨e0, e1, n0⟩ | ⟨e0, e1, n0⟩ | ⟨e0, e1, n0⟩
        all_goals
          rw [n0] at hix
          rw [e1] at HCw
          clear e0 e1 n0
          go_wp2_with fail
          refine HCw.out.mono ?_
          rintro e W3 ⟨u, rfl, hu, hb3⟩
          have HB3 : Hid (Below W2.heap.size W2 W3) := HB.out.trans (hb3.mono HB.out.size)
          have hown3 := HOw.out.kept (grown_of_below hb3 none) (Classical.em _)
          have HU := Lib.hid hu
          clear hu hb3 hix
          go_wp2_with (at_builtin; refine wpList_append_row rfl _ _ 64 rfl W2.heap.size 77 i0 (.agg #[.int .i64 0, .int .i64 0, .int .i64 0, .int .i64 0]) 4 32 Try.underlying64 hi hz0 hz1 hz2 rfl (by decide) _ _ _ rfl hown3 u _ _ _ rfl HU.out (reason_one _) (by unfold maxLen; omega) (by omega) HB3.out.size ?_; intro v' w2 hown' hgrow; have HB4 : Hid (Below W2.heap.size W2 w2) := HB3.out.grown hgrow HB3.out.size (fun j e => (hown3.lt j e).1); clear hgrow)
          go_roundw
          case rel => exact ⟨k + 1, by omega, by go_num, by rw [HSu.out, List.length_append, List.flatMap_append]; exact hown', HB4.out⟩
          case measure => simp [intOf]; omega
      · obtain rfl : k = 4 := by omega
        go_wp2
        go_ret2
        exact HFin.out _ _ (HB2.out.trans (HB.out.mono HB2.out.size)) (own_lower hown HB2.out.size)
end Go.Proofs.Ytkkajemahehoaaa
