/- Rows of nodes that are the call's own: copied, and stored into. -/
import Derived.Test.YtadldndpphdmpaaHm
import Derived.Test.YtadldndpphdmpaaQC
import Derived.Laws.OwnMore
import Derived.Maps.AppendAt
namespace Go.Proofs.Ytadldndpphdmpaa
open Go.RowKit Go.Shelf

theorem flat_set {α : Type} {enc : α → List Value} {k : Nat} (hk : ∀ x, (enc x).length = k) : ∀ (xs : List α) (i : Nat) (x y : α) (j : Nat) (u : Value), xs[i]? = some x → j < k → enc y = (enc x).set j u → (xs.flatMap enc).set (i * k + j) u = (xs.set i y).flatMap enc
  | [], i, x, y, j, u, h, _, _ => by simp at h
  | z :: xs, 0, x, y, j, u, h, hj, he => by
    simp at h
    subst h
    rw [List.flatMap_cons, Nat.zero_mul, Nat.zero_add, List.set_append_left _ _ (by rw [hk]; exact hj), List.set_cons_zero, List.flatMap_cons, he]
  | z :: xs, i + 1, x, y, j, u, h, hj, he => by
    rw [List.getElem?_cons_succ] at h
    rw [List.flatMap_cons, List.set_append_right _ _ (by rw [hk, Nat.succ_mul]; omega), hk, show (i + 1) * k + j - k = i * k + j by rw [Nat.succ_mul]; omega, List.set_cons_succ, List.flatMap_cons, flat_set hk xs i x y j u h hj he]
theorem ndm_len (m : NdM) : m.enc.length = 5 := rfl
theorem ndm_one (ms : List NdM) : ∀ u ∈ ms.flatMap NdM.enc, u.oneCell' = true := fun u hu => by
  rw [List.mem_flatMap] at hu
  obtain ⟨m, _, h⟩ := hu
  simp at h
  rcases h with rfl | rfl | rfl | rfl | rfl <;> rfl
/-- A node with its kind, count, hold changed where it lies. -/
def NdM.kindTo (m : NdM) (x : Int) : NdM := ⟨{ m.nd with kind := x }, m.A, m.c⟩
def NdM.cntTo (m : NdM) (x : Int) : NdM := ⟨{ m.nd with cnt := x }, m.A, m.c⟩
def NdM.holdTo (m : NdM) (x : Int) : NdM := ⟨{ m.nd with hold := x }, m.A, m.c⟩
/-- The nodes in a row of the call's own. -/
def OwnT (w : World) (base g cap n : Nat) (ms : List NdM) : Prop :=
  w.ownsRow base 53 5 (.slice (some ⟨g, 0, none⟩) n cap) n (ms.flatMap NdM.enc) ∧ ms.length = n
theorem OwnT.cell {w : World} {base g cap n : Nat} {ms : List NdM} (h : OwnT w base g cap n ms) {i j : Nat} {m : NdM} {u : Value} (hm : ms[i]? = some m) (hj : m.enc[j]? = some u) : w.cell? ⟨g, i * 5 + j, none⟩ = some u := by
  have hi : i < n := by have := (List.getElem?_eq_some_iff.1 hm).1; rw [h.2] at this; exact this
  have hj5 : j < 5 := by have := (List.getElem?_eq_some_iff.1 hj).1; exact this
  rw [h.1.cellAt (i * 5 + j) (by omega)]
  exact flat_get ndm_len ms i m j u hm hj
theorem OwnT.froz {w : World} {base g cap n : Nat} {ms : List NdM} (h : OwnT w base g cap n ms) (j : Nat) : w.frozen? ⟨g, j, none⟩ = false := h.1.frozenAt j
theorem OwnT.lt {w : World} {base g cap n : Nat} {ms : List NdM} (h : OwnT w base g cap n ms) : base ≤ g ∧ g < w.heap.size := h.1.lt g rfl
theorem OwnT.set {w : World} {base g cap n : Nat} {ms : List NdM} (h : OwnT w base g cap n ms) {i j : Nat} {m m' : NdM} {u : Value} (hm : ms[i]? = some m) (hj : j < 5) (he : m'.enc = m.enc.set j u) :
    OwnT (w.setCell ⟨g, i * 5 + j, none⟩ u) base g cap n (ms.set i m') ∧ w.grownBy (w.setCell ⟨g, i * 5 + j, none⟩ u) (some g) := by
  obtain ⟨h1, h2⟩ := h.1.stored (i * 5 + j) u
  rw [flat_set ndm_len ms i m m' j u hm hj he] at h1
  exact ⟨⟨h1, by rw [List.length_set]; exact h.2⟩, h2⟩
/-- The tree that lies there. -/
theorem OwnT.tree {w : World} {base g cap n : Nat} {ms : List NdM} (h : OwnT w base g cap n ms) (hn : ∀ m ∈ ms, NdR w m) (hb : n ≤ 1000000000000000) : TrM w (ms.map (·.nd)) (some ⟨g, 0, none⟩) n ms ∧ n ≤ cap := by
  obtain ⟨A, c, e, h1, h2, _⟩ := rd_of_own ndm_len h.1 h.2
  injection e with e1 e2 e3
  subst e1; subst e3
  exact ⟨⟨h1, rfl, hn, hb⟩, h2⟩
/-- The first i nodes changed. -/
def chgd (f : NdM → NdM) (ms : List NdM) (i : Nat) : List NdM := (ms.take i).map f ++ ms.drop i
theorem chgd_zero (f : NdM → NdM) (ms : List NdM) : chgd f ms 0 = ms := by simp [chgd]
theorem chgd_all (f : NdM → NdM) (ms : List NdM) : chgd f ms ms.length = ms.map f := by simp [chgd]
theorem chgd_len (f : NdM → NdM) (ms : List NdM) (i : Nat) : (chgd f ms i).length = ms.length := by
  unfold chgd
  rw [List.length_append, List.length_map, List.length_take, List.length_drop]
  omega
theorem chgd_get (f : NdM → NdM) {ms : List NdM} {i : Nat} {m : NdM} (h : ms[i]? = some m) : (chgd f ms i)[i]? = some m := by
  have hi := (List.getElem?_eq_some_iff.1 h).1
  unfold chgd
  rw [List.getElem?_append_right (by rw [List.length_map, List.length_take]; omega), List.length_map, List.length_take, List.getElem?_drop]
  rw [show i + (i - min i ms.length) = i by omega, h]
theorem chgd_set (f : NdM → NdM) {ms : List NdM} {i : Nat} {m : NdM} (h : ms[i]? = some m) : (chgd f ms i).set i (f m) = chgd f ms (i + 1) := by
  obtain ⟨hi, rfl⟩ := List.getElem?_eq_some_iff.1 h
  unfold chgd
  rw [List.set_append_right _ _ (by rw [List.length_map, List.length_take]; omega), List.length_map, List.length_take, List.drop_eq_getElem_cons hi, show i - min i ms.length = 0 by omega, List.set_cons_zero, List.take_succ_eq_append_getElem hi, List.map_append, List.append_assoc]
  rfl
theorem set_same {α : Type} : ∀ {l : List α} {i : Nat} {x : α}, l[i]? = some x → l.set i x = l := fun {l i x} h => by
  obtain ⟨hi, rfl⟩ := List.getElem?_eq_some_iff.1 h
  exact List.set_getElem_self hi
theorem chgd_same (f : NdM → NdM) {ms : List NdM} {i : Nat} {m : NdM} (h : ms[i]? = some m) (he : f m = m) : chgd f ms (i + 1) = chgd f ms i := by
  have := chgd_set f h
  rw [he] at this
  rw [← this]
  exact set_same (chgd_get f h)

theorem infoN : (Try.prog.info? 53).map (fun i => (i.zero, i.size, i.bytes)) = some (some (.agg #[.string ByteArray.empty, .int .i64 0, .slice none 0 0, .int .i64 0, .int .i64 0]), 5, 64) := by kernel_rfl
theorem buildN (w : World) : (Instr.buildSlice 22 0 #[]).run Try.prog w = .ok (.slice (some ⟨w.heap.size, 0, none⟩) 0 0) (w.alloc (.cells #[] 53)) := by kernel_rfl
theorem own_empty (w : World) (base : Nat) (hb : base ≤ w.heap.size) (e : TypeId) (size : Nat) : (w.alloc (.cells #[] e)).ownsRow base e size (.slice (some ⟨w.heap.size, 0, none⟩) 0 0) 0 [] :=
  ⟨by simp, .inr ⟨w.heap.size, 0, #[], rfl, hb, heap_alloc_new w _, Nat.le_refl _, Nat.zero_le _, by simp, by simp⟩⟩
theorem news_of {α : Type} {enc : α → List Value} {k : Nat} (hk : ∀ x, (enc x).length = k) {w : World} {ad : Addr} : ∀ (xs : List α) (off : Nat), (∀ (i : Nat) (x : α), xs[i]? = some x → At w (ad.add (off + i * k)) (enc x)) →
    ∀ (j : Nat) (u : Value), (xs.flatMap enc)[j]? = some u → w.cell? ((ad.add off).add j) = some u
  | [], _, _, j, u, h => by simp at h
  | x :: xs, off, hx, j, u, h => by
    rw [List.flatMap_cons] at h
    by_cases hj : j < (enc x).length
    · rw [List.getElem?_append_left hj] at h
      have := hx 0 x rfl j u h
      rw [Nat.zero_mul, Nat.add_zero] at this
      exact this
    · rw [List.getElem?_append_right (by omega)] at h
      have h1 := news_of hk xs (off + k) (fun i y hy => by
        have := hx (i + 1) y (by simpa using hy)
        rw [show off + k + i * k = off + (i + 1) * k by rw [Nat.add_mul]; omega]
        exact this) (j - (enc x).length) u h
      rw [hk, add_add'] at h1
      rw [hk] at hj
      rw [add_add', show off + j = off + k + (j - k) by omega]
      exact h1
theorem rd_news {α : Type} {enc : α → List Value} {k : Nat} (hk : ∀ x, (enc x).length = k) {w : World} {ad : Addr} {n : Nat} {xs : List α} (h : Rd enc k w (some ad) n xs) (j : Nat) (u : Value) (hu : (xs.flatMap enc)[j]? = some u) : w.cell? (ad.add j) = some u := by
  have h0 := news_of hk (w := w) (ad := ad) xs 0 (fun i x hx => by
    obtain ⟨ad', e, ha⟩ := h.2 i x hx
    cases e
    rw [Nat.zero_add]
    exact ha) j u hu
  rw [add_add', Nat.zero_add] at h0
  exact h0
theorem flat_len {α : Type} {enc : α → List Value} {k : Nat} (hk : ∀ x, (enc x).length = k) (xs : List α) : (xs.flatMap enc).length = xs.length * k := by
  induction xs with
  | nil => simp
  | cons x r ih => rw [List.flatMap_cons, List.length_append, ih, hk, List.length_cons, Nat.succ_mul]; omega
/-- append(v, u): the row and where it lies. -/
theorem wpList_append_one_at {P : Program} {w0 : World} {ops : Array Oper} {rest : List Oper} {o : Oper} {a : Act} {Q : Exit → Act → World → Prop} (hgd : o.guard = none) (s x : Operand) (t : TypeId)
    (ho : o.op = .call { callee := .builtin .append, args := #[s, x], argTypes := #[t, t] })
    (base : Nat) (e : TypeId) (i : TypeInfo) (z : Value) (bytes : Nat) (ht : P.underlying t = some (.slice e)) (hi : P.info? e = some i) (hz : i.zero = some z)
    (hsize : i.size = 1) (hby : i.bytes = bytes) (hzs : z.cells.size = 1)
    (v : Value) (n : Nat) (xs : List Value) (hs : a.eval s = v) (hown : w0.ownsRow base e 1 v n xs) (u : Value) (b : Nat) (hb : b = w0.heap.size) (hx : a.eval x = .slice (some ⟨b, 0, none⟩) 1 1) (hu : u.oneCell' = true)
    (h63 : n + 1 ≤ maxLen) (hbytes : (n + 1) * bytes ≤ 140737488355328) (hbase : base ≤ w0.heap.size)
    (h : ∀ v' w', w'.ownsRow base e 1 v' (n + 1) (xs ++ [u]) → w0.grownBy w' v.ownBlock → (v'.ownBlock = v.ownBlock ∨ v'.ownBlock = some (w0.heap.size + 1)) → (∃ A' c', v' = .slice A' (n + 1) c') → wpList P ops Q rest (a.put o.dst v') w') :
    wpList P ops Q (o :: rest) a (w0.alloc (.cells #[u] e)) := by
  subst hb
  refine wpList_append_own_at _ hgd s x t ho base e i z 1 bytes ht hi hz hsize hby hzs (by decide) v n xs hs (hown.alloc _) ⟨w0.heap.size, 0, none⟩ 1 1 [u] hx rfl (cell_one_new _ _ _) (by simpa using hu) h63 hbytes (by simp; omega) ?_
  intro v' w' h1 h2 _ h5
  obtain ⟨A', c', e', _⟩ := own_slice h1
  exact h v' w' h1 ((World.grownBy_alloc w0 _ _).trans h2) (by simpa using h5) ⟨A', c', e'⟩
/-- Two rows that lie apart. -/
def Apart2 (va vb : Value) : Prop := ∀ r, va.ownBlock = some r → vb.ownBlock ≠ some r
theorem Apart2.symm {va vb : Value} (h : Apart2 va vb) : Apart2 vb va := fun r h1 h2 => h r h2 h1
theorem Apart2.nil (v : Value) : Apart2 (.slice none 0 0) v := fun r h => by simp [Value.ownBlock] at h
theorem Apart2.grow {w : World} {base : Nat} {e : TypeId} {size : Nat} {va va' vb : Value} {n : Nat} {xs : List Value} (h : Apart2 va vb) (hb : w.ownsRow base e size vb n xs) (hv : va'.ownBlock = va.ownBlock ∨ va'.ownBlock = some (w.heap.size + 1)) : Apart2 va' vb := fun r h1 h2 => by
  rcases hv with hv | hv
  · exact h r (hv ▸ h1) h2
  · rw [hv] at h1
    cases h1
    have := (hb.lt _ h2).2
    omega
theorem Apart2.keep {w w' : World} {base : Nat} {e : TypeId} {size : Nat} {va vb : Value} {n : Nat} {xs : List Value} (h : Apart2 va vb) (hb : w.ownsRow base e size vb n xs) (hg : w.grownBy w' va.ownBlock) : w'.ownsRow base e size vb n xs := by
  refine hb.kept hg ?_
  rcases hb.2 with ⟨rfl, _⟩ | ⟨g, cap, cur, rfl, _⟩
  · exact .inl rfl
  · exact .inr fun e' => h g e'.symm rfl
/-- append([]api.FaNode{}, t.Nodes...). -/
theorem wpList_copy_nodes {w : World} {ops : Array Oper} {rest : List Oper} {o : Oper} {a : Act} {Q : Exit → Act → World → Prop} (hgd : o.guard = none) (s x : Operand)
    (ho : o.op = .call { callee := .builtin .append, args := #[s, x], argTypes := #[22, 22] }) (base b0 : Nat) (ad : Addr) (n c : Nat) (ms : List NdM)
    (hs : a.eval s = .slice (some ⟨b0, 0, none⟩) 0 0) (hown : w.ownsRow base 53 5 (.slice (some ⟨b0, 0, none⟩) 0 0) 0 []) (hx : a.eval x = .slice (some ad) n c) (hT : Rd NdM.enc 5 w (some ad) n ms)
    (h1 : 1 ≤ n) (h40 : n ≤ 1000000) (hbase : base ≤ w.heap.size)
    (h : ∀ g cap w', OwnT w' base g cap n ms → w.grownBy w' (some b0) → n ≤ cap → wpList Try.prog ops Q rest (a.put o.dst (.slice (some ⟨g, 0, none⟩) n cap)) w') : wpList Try.prog ops Q (o :: rest) a w := by
  obtain ⟨i0, hi0, hz0, hz1, hz2⟩ := info_parts infoN
  refine wpList_append_own w hgd s x 22 ho base 53 i0 _ 5 64 Try.underlying22 hi0 hz0 hz1 hz2 rfl (by decide) _ 0 [] hs hown ad n c (ms.flatMap NdM.enc) hx (by rw [flat_len ndm_len, hT.1]) (rd_news ndm_len hT) (ndm_one ms) (by unfold maxLen; omega) (by omega) hbase ?_
  intro v' w' h2 h3 _
  rw [List.nil_append, Nat.zero_add] at h2
  rcases h2.2 with ⟨rfl, h0⟩ | ⟨g, cap, cur, rfl, hr⟩
  · omega
  · exact h g cap w' ⟨h2, hT.1⟩ h3 (by obtain ⟨_, _, h4, _⟩ := hr; exact h4)
end Go.Proofs.Ytadldndpphdmpaa
