/-
  FailureMore, for every tree, sets and node that can be read: the law returns true, and its arguments read as they did. Condition: what it reads is of bulk at most 1048576 (the second form).
-/
import Derived.Test.YtadldndpphdmpaaLM
import Derived.Test.YtadldndpphdmpaaRk
import Derived.Deep.CondSized
namespace Go.Proofs.Ytadldndpphdmpaa
open Go.ChangeShapes Go.WideShapes Go.RowKit

theorem bulk_one {H : Type} (d : DataW H) : 1 ≤ Rows.uptoBulk d := by
  cases d with
  | lit l => cases l <;> simp [Rows.uptoBulk]
  | nil => simp [Rows.uptoBulk]
  | ptr d => simp [Rows.uptoBulk]
  | slice elems spare => simp [Rows.uptoBulk]
  | agg parts => simp [Rows.uptoBulk]
  | iface t d => simp [Rows.uptoBulk]
  | map entries => simp [Rows.uptoBulk]
  | held h => simp [Rows.uptoBulk]
theorem bulk_len {H : Type} (l : List (DataW H)) : l.length ≤ Rows.uptoBulkAll l := by
  induction l with
  | nil => simp [Rows.uptoBulkAll]
  | cons x r ih => have := bulk_one x; simp only [Rows.uptoBulkAll, List.length_cons]; omega
/-- A list that is read: its bulk is above its length. -/
theorem ints_bulk {H : Type} {enc : TypeId × Value → H} {w : World} {fuel : Nat} {x : DataW H × List MemPlace} {A : Option Addr} {n c : Nat} (h : DataW.trod enc Try.prog w 0 (fun _ => true) true fuel 30 [.slice A n c] = some x) : n ≤ Rows.uptoBulk x.1 ∧ (A = none → c = 0) := by
  rcases DataW.trod_slice Try.underlying30 h with ⟨e, rfl⟩ | ⟨a, len, cap, elems, rest, m, _, e, rfl, _, _, _, hl, _⟩
  · simp only [List.cons.injEq, Value.slice.injEq, and_true] at e
    obtain ⟨_, rfl, rfl⟩ := e
    exact ⟨Nat.zero_le _, fun _ => rfl⟩
  · simp only [List.cons.injEq, Value.slice.injEq, and_true] at e
    obtain ⟨rfl, rfl, rfl⟩ := e
    refine ⟨?_, fun h => by cases h⟩
    have := bulk_len (elems.map (·.1))
    rw [List.length_map, hl] at this
    simp only [Rows.uptoBulk]
    omega
theorem sets_bulk {H : Type} {enc : TypeId × Value → H} {w : World} {d : DataW H} {p : List MemPlace} {v : Value} {L G : Option Addr} {n c m k : Nat} (h : DataW.Trod enc Try.prog w 0 (fun _ => true) true 40 v d p) (hv : v.cells.toList = [.slice L n c, .slice G m k]) :
    n + m ≤ Rows.uptoBulk d ∧ (L = none → c = 0) := by
  obtain ⟨fuel, hf⟩ := h
  rw [hv] at hf
  obtain ⟨y0, y1, q, e, _, h0, h1⟩ := trod_struct2 Try.underlying40 hf
  cases e
  have h0' : DataW.trod enc Try.prog w 0 (fun _ => true) true q 30 ((([.slice L n c, .slice G m k] : List Value).drop 0).take (Try.prog.cellsOf 30)) = some y0 := h0
  have h1' : DataW.trod enc Try.prog w 0 (fun _ => true) true q 30 ((([.slice L n c, .slice G m k] : List Value).drop 1).take (Try.prog.cellsOf 30)) = some y1 := h1
  rw [cellsInts] at h0' h1'
  have k0 := ints_bulk (A := L) (n := n) (c := c) h0'
  have k1 := ints_bulk (A := G) (n := m) (c := k) h1'
  refine ⟨?_, k0.2⟩
  simp only [Rows.uptoBulk, Rows.uptoBulkAll]
  omega

set_option maxRecDepth 100000 in
theorem failureMore_lifted (os : Os) (started : os.Started) (H : Type) (enc : TypeId × Value → H) (F : Stop.Interp) :
    ReturnsInHanded {} Try.checked os 6 .any ((Rows.OpenSpec.upto Rows.failureMoreSpec).pre6 enc Try.prog Try.f6 Rows.failureMoreUptoRow.domain false) (((Rows.OpenSpec.upto Rows.failureMoreSpec).at F).post enc Try.prog Try.f6 false true false false) := by
  refine returnsInHanded_of_cond_sized (C := Try.checked) (s := Rows.OpenSpec.upto Rows.failureMoreSpec) (k := Rows.uptoSmall) rfl Try.own started (by kernel_rfl) Try.func6
    (OpenSpec.witness (enc := enc) (C := Try.checked) (s := Rows.OpenSpec.upto Rows.failureMoreSpec) (k := Rows.uptoSmall) rfl false ⟨#[], #[.agg #[.slice none 0 0], .agg #[.slice none 0 0, .slice none 0 0], .int .i64 0], []⟩ 8 (by kernel_rfl) (by kernel_rfl) (by kernel_rfl) (x := ([.agg [.nil], .agg [.nil, .nil], .lit (.int .i64 0)], [], [])) (by kernel_rfl) rfl (by kernel_rfl)) ?_
  intro W base args ds gs before hval0 hW _ hk hsz0 _
  have hval : ∀ (j : Nat) t v, Try.f6.params[j]? = some t → args[j]? = some v → Value.okWide Try.prog W .any base t v := hval0
  have hsz : (DataW.weightsEach Try.prog (Try.f6.params.toList ++ Rows.failureMoreSpec.plain.varTypes Try.prog) (ds ++ gs)).all (· ≤ reachBytes) = true := hsz0
  have hW' := hW
  obtain ⟨p, q, hA0, hV, rfl, hfz, hnd⟩ := hW
  have hA : DataW.TrodAll enc Try.prog W 0 (fun _ => true) true Try.f6.params.toList args.toList ds p := hA0
  rw [Try.params6] at hA hval hsz
  obtain ⟨v0, v1, v2, d0, d1, d2, p0, p1, p2, rfl, rfl, rfl, h0, h1, h2⟩ := trodAll_three hA
  obtain ⟨rfl, rfl⟩ := trodVars_none hV
  have hkb : Rows.uptoBulkAll ([d0, d1, d2] ++ []) ≤ 1048576 := of_decide_eq_true hk
  simp only [List.append_nil, Rows.uptoBulkAll] at hkb
  obtain ⟨t, A, n, c, ms, e0, hc, hT⟩ := (reads_of h0 (weights_arg hsz (j := 0) rfl rfl)).tree
  have e0' := agg_list (agg_of Try.underlying24 (hval 0 24 v0 rfl rfl)) e0
  subst e0'
  obtain ⟨L, cl, l, G, cg, g, e1, hcl, hl8, hL, hcg, hg8, hG⟩ := (reads_of h1 (weights_arg hsz (j := 1) rfl rfl)).sets
  obtain ⟨hlg, hLn⟩ := sets_bulk h1 e1
  have e1' := agg_list (agg_of Try.underlying40 (hval 1 40 v1 rfl rfl)) e1
  subst e1'
  have hl : l.length ≤ 1000000000000000 := by unfold reachBytes at hl8; omega
  have hg : g.length ≤ 1000000000000000 := by unfold reachBytes at hg8; omega
  have r2 := (reads_of h2 (weights_arg hsz (j := 2) rfl rfl))
  rw [one_int Try.underlying3 (hval 2 3 v2 rfl rfl)] at r2
  obtain ⟨y, rfl, hy⟩ := r2.i64
  refine (FailureMore_any t l g y A n c ms L cl G cg W hT hc hL (by omega) hLn hG (by omega)).mono fun e W' ⟨he, hb⟩ => ?_
  subst he
  exact ⟨_, rfl, law_post rfl (by kernel_rfl) (by rw [Try.params6]; exact fun t ht => by simp at ht; rcases ht with rfl | rfl | rfl <;> exact ⟨by kernel_rfl, of_decide_eq_true (by kernel_rfl)⟩) hW' rfl hb⟩

theorem failureMore_upto : Rows.FailureMoreUptoSaid :=
  OpenClaim.holds_of_cond 6 Try.f6 rfl rfl rfl rfl rfl rfl rfl ⟨rfl, rfl, rfl, rfl, rfl⟩ rfl rfl rfl rfl rfl (by kernel_rfl) Try.func6 (by kernel_rfl)
    (of_decide_eq_true (by kernel_rfl)) (by unfold Func.isWrapper; first | (rw [if_pos (by decide +kernel)]; kernel_rfl) | (rw [if_neg (by decide +kernel)]; exact ⟨rfl, rfl⟩))
    (fun os started H enc _ F => failureMore_lifted os started H enc F)

#print axioms failureMore_upto

end Go.Proofs.Ytadldndpphdmpaa
