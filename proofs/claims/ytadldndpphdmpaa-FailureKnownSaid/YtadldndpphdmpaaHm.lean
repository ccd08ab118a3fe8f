/- Plain: the tree in which all and any, and the counts, are exchanged; the tree without holds. -/
import Derived.Test.YtadldndpphdmpaaHd
import Derived.Test.YtadldndpphdmpaaHf
import Derived.Test.YtadldndpphdmpaaHj
import Derived.Test.YtadldndpphdmpaaI11
import Derived.Test.YtadldndpphdmpaaHl
namespace Go.Proofs.Ytadldndpphdmpaa

/-- A node with another kind, count and hold. -/
structure SameNd (x y : Nd) : Prop where
  name : y.name = x.name
  ins : y.ins = x.ins
  kind : y.kind = 1 ↔ x.kind = 1
theorem map_get {α β : Type} (f : α → β) {l : List α} {i : Nat} {y : β} (h : (l.map f)[i]? = some y) : ∃ x, l[i]? = some x ∧ f x = y := by
  rw [List.getElem?_map, Option.map_eq_some_iff] at h
  exact h
section
variable {f : Nd → Nd} {t : List Nd}
theorem isBas_map (hf : ∀ x, SameNd x (f x)) (j : Nat) : isBas (t.map f) j = isBas t j := by
  unfold isBas
  rw [List.getElem?_map]
  cases t[j]? with
  | none => rfl
  | some x =>
    show ((f x).kind == 1) = (x.kind == 1)
    rw [Bool.eq_iff_iff, beq_iff_eq, beq_iff_eq]
    exact (hf x).kind
theorem bas_map (hf : ∀ x, SameNd x (f x)) : bas (t.map f) = bas t := by
  refine Nat.eq_of_testBit_eq fun j => ?_
  rw [bas_bit, bas_bit, isBas_map hf]
theorem nBas_map (hf : ∀ x, SameNd x (f x)) : nBas (t.map f) = nBas t := by
  unfold nBas
  rw [List.filter_map, List.length_map]
  refine congrArg List.length (List.filter_congr fun x _ => ?_)
  show ((f x).kind == 1) = (x.kind == 1)
  rw [Bool.eq_iff_iff, beq_iff_eq, beq_iff_eq]
  exact (hf x).kind
theorem anyB_map (hf : ∀ x, SameNd x (f x)) (nm : ByteArray) (n : Nat) : anyB (t.map f) nm n = anyB t nm n := by
  unfold anyB
  rw [idxF_congr (n - 0) 0 (fun j _ _ => ?_)]
  unfold sameB
  rw [List.getElem?_map]
  cases t[j]? with
  | none => rfl
  | some x =>
    show ((f x).name.toList == nm.toList) = _
    rw [(hf x).name]
theorem Sub_map (hf : ∀ x, SameNd x (f x)) {s : Nat} : Sub (t.map f) s ↔ Sub t s := by
  unfold Sub
  constructor <;> intro h j hj
  · rw [← isBas_map hf]; exact h j hj
  · rw [isBas_map hf]; exact h j hj
theorem TrOk_map (hf : ∀ x, SameNd x (f x)) (h : TrOk t) (hn : ∀ i x, t[i]? = some x → NdOk t i x → NdOk (t.map f) i (f x)) : TrOk (t.map f) := by
  refine ⟨by rw [List.length_map]; exact h.l1, by rw [List.length_map]; exact h.l40, fun i y hy => ?_, by rw [nBas_map hf]; exact h.b1, by rw [nBas_map hf]; exact h.b10⟩
  obtain ⟨x, hx, rfl⟩ := map_get f hy
  exact hn i x hx (h.nd i x hx)
end

/-- The dual node. -/
def dualNd (x : Nd) : Nd :=
  if x.kind = 2 then { x with kind := 3 } else if x.kind = 3 then { x with kind := 2 } else if x.kind = 4 then { x with cnt := (x.ins.length : Int) + 1 - x.cnt } else x
def dualT (t : List Nd) : List Nd := t.map dualNd
theorem dual_same (x : Nd) : SameNd x (dualNd x) := by
  unfold dualNd
  by_cases h2 : x.kind = 2
  · rw [if_pos h2]; exact ⟨rfl, rfl, by show (3 : Int) = 1 ↔ _; omega⟩
  rw [if_neg h2]
  by_cases h3 : x.kind = 3
  · rw [if_pos h3]; exact ⟨rfl, rfl, by show (2 : Int) = 1 ↔ _; omega⟩
  rw [if_neg h3]
  by_cases h4 : x.kind = 4
  · rw [if_pos h4]; exact ⟨rfl, rfl, Iff.rfl⟩
  rw [if_neg h4]; exact ⟨rfl, rfl, Iff.rfl⟩
theorem dual_ok {t : List Nd} {i : Nat} {x : Nd} (ok : NdOk t i x) : NdOk (t.map dualNd) i (dualNd x) := by
  have hs := dual_same x
  have hk : ((dualNd x).kind = 4 ↔ x.kind = 4) ∧ 1 ≤ (dualNd x).kind ∧ (dualNd x).kind ≤ 4 ∧ (dualNd x).hold = x.hold ∧ (x.kind ≠ 4 → (dualNd x).cnt = x.cnt) ∧ (x.kind = 4 → (dualNd x).cnt = (x.ins.length : Int) + 1 - x.cnt) := by
    have k1 := ok.k1
    have k4 := ok.k4
    unfold dualNd
    by_cases h2 : x.kind = 2
    · rw [if_pos h2]; refine ⟨?_, ?_, ?_, rfl, fun _ => rfl, fun c => absurd c (by omega)⟩ <;> dsimp only <;> omega
    rw [if_neg h2]
    by_cases h3 : x.kind = 3
    · rw [if_pos h3]; refine ⟨?_, ?_, ?_, rfl, fun _ => rfl, fun c => absurd c (by omega)⟩ <;> dsimp only <;> omega
    rw [if_neg h3]
    by_cases h4 : x.kind = 4
    · rw [if_pos h4]; exact ⟨Iff.rfl, k1, k4, rfl, fun c => absurd h4 c, fun _ => rfl⟩
    rw [if_neg h4]; exact ⟨Iff.rfl, k1, k4, rfl, fun _ => rfl, fun c => absurd c h4⟩
  obtain ⟨q1, q2, q3, q4, q5, q6⟩ := hk
  refine ⟨by rw [hs.name]; exact ok.name, by rw [anyB_map dual_same, hs.name]; exact ok.own, q2, q3, fun c => by rw [hs.ins]; exact ok.b0 (hs.kind.1 c), fun c => by rw [hs.ins]; exact ok.l1 (fun e => c (hs.kind.2 e)), by rw [hs.ins]; exact ok.l10, fun n hn => ok.ins n (by rwa [hs.ins] at hn), by rw [hs.ins]; exact ok.nd, fun c => ?_, fun c => ?_, by rw [q4]; exact ok.h0, by rw [q4]; exact ok.h1, fun c => by rw [q4]; exact ok.hb (hs.kind.1 c)⟩
  · have c4 := q1.1 c
    have := ok.c4 c4
    rw [q6 c4, hs.ins]
    omega
  · have c4 : x.kind ≠ 4 := fun e => c (q1.2 e)
    rw [q5 c4]
    exact ok.c0 c4
theorem dual_tr {t : List Nd} (h : TrOk t) : TrOk (dualT t) := TrOk_map dual_same h fun _ _ _ ok => dual_ok ok
theorem hits_not {x y : Nd} (he : y.ins = x.ins) (f : Nat → Bool) : hitsF y (fun i => !f i) + hitsF x f = x.ins.length := by
  unfold hitsF
  rw [he]
  generalize x.ins = l
  induction l with
  | nil => rfl
  | cons a l ih =>
    rw [List.filter_cons, List.filter_cons]
    cases hf : f a.toNat <;> simp [hf] <;> simp at ih <;> omega
theorem dual_so {t : List Nd} {i : Nat} {x : Nd} (ok : NdOk t i x) (h1 : x.kind ≠ 1) (f : Nat → Bool) : so (dualNd x) (fun i => !f i) = !so x f := by
  have hh := hits_not (dual_same x).ins f
  have k1 := ok.k1
  have k4 := ok.k4
  have l1 := ok.l1 h1
  rw [so_hits, so_hits, Bool.eq_iff_iff, Bool.not_eq_true']
  generalize hitsF (dualNd x) (fun i => !f i) = a at *
  generalize hitsF x f = b at *
  by_cases h2 : x.kind = 2
  · have e : dualNd x = { x with kind := 3 } := by unfold dualNd; rw [if_pos h2]
    rw [e]
    dsimp only
    rw [if_neg (by decide), if_pos rfl, if_pos h2, decide_eq_true_eq]
    simp
    omega
  by_cases h3 : x.kind = 3
  · have e : dualNd x = { x with kind := 2 } := by unfold dualNd; rw [if_neg h2, if_pos h3]
    rw [e]
    dsimp only
    rw [if_pos rfl, if_neg h2, if_pos h3, decide_eq_false_iff_not]
    simp
    omega
  have h4 : x.kind = 4 := by omega
  have e : dualNd x = { x with cnt := (x.ins.length : Int) + 1 - x.cnt } := by unfold dualNd; rw [if_neg h2, if_neg h3, if_pos h4]
  rw [e, if_neg h2, if_neg h3, if_neg h2, if_neg h3, decide_eq_true_eq, decide_eq_false_iff_not]
  dsimp only
  omega
theorem dual_ef {t : List Nd} (h : TrOk t) (b : Nat → Bool) : ∀ i, i < t.length → ef (dualT t) b i = !ef t (fun j => !b j) i := by
  intro i hi
  refine (ef_uniq (t := dualT t) (g := fun i => !ef t (fun j => !b j) i) (b := b) (dual_tr h) (fun i y hy => ?_) i (by unfold dualT; rw [List.length_map]; exact hi)).symm
  obtain ⟨x, hx, rfl⟩ := map_get dualNd hy
  rw [ef_eq h _ hx]
  by_cases h1 : x.kind = 1
  · rw [if_pos h1, if_pos ((dual_same x).kind.2 h1), Bool.not_not]
  · rw [if_neg h1, if_neg (fun c => h1 ((dual_same x).kind.1 c)), dual_so (h.nd i x hx) h1]
theorem dual_bas (t : List Nd) : bas (dualT t) = bas t := bas_map dual_same
theorem dual_cause {t : List Nd} (h : TrOk t) {s y : Nat} (hs : Sub t s) (hy : y < t.length) : (eff (dualT t) s).testBit y = soundB t y s := by
  unfold soundB
  rw [eff_bit (dual_tr h) ((Sub_map dual_same).2 hs), eff_bit h (diff_sub t s), dual_ef h _ y hy]
  congr 1
  refine ef_congr h (fun i x hx h1 => ?_) y
  rw [diffN_bit, bas_bit, isBas_kind hx, h1]
  rfl
theorem dual_sound {t : List Nd} (h : TrOk t) {s y : Nat} (hs : Sub t s) (hy : y < t.length) : soundB (dualT t) y s = (eff t s).testBit y := by
  unfold soundB
  rw [dual_bas, eff_bit (dual_tr h) ((Sub_map dual_same).2 (diff_sub t s)), eff_bit h hs, dual_ef h _ y hy, Bool.not_not]
  refine ef_congr h (fun i x hx h1 => ?_) y
  rw [diffN_bit, bas_bit, isBas_kind hx, h1]
  simp
theorem least_congr {p q : Nat → Bool} {all : Nat} (h : ∀ s, SubN s all → p s = q s) : leastN p all = leastN q all := by
  unfold leastN
  refine congrArg sortN (List.filter_congr fun s hs => ?_)
  have hs := mem_subL.1 hs
  unfold minB
  rw [h s hs]
  congr 2
  rw [Bool.eq_iff_iff, List.any_eq_true, List.any_eq_true]
  constructor <;> rintro ⟨i, h1, h2⟩ <;> refine ⟨i, h1, ?_⟩
  · rwa [← h _ fun j hj => hs j (sub1_sub s _ j hj)]
  · rwa [h _ fun j hj => hs j (sub1_sub s _ j hj)]
theorem dual_ask {t : List Nd} {y : Int} (h : askT t y = 0) : askT (dualT t) y = 0 := by
  obtain ⟨hT, y0, y1⟩ := ask_ok h
  rw [askT_err (dual_tr hT), if_neg]
  unfold dualT
  rw [List.length_map, outB_eq_false.2 ⟨y0, by omega⟩]
  decide
/-- In the dual tree causes and guards are exchanged. -/
theorem dual_lists {t : List Nd} {y : Int} (h : askT t y = 0) : causesT (dualT t) y = ((guardsT t y).1, 0) ∧ guardsT (dualT t) y = ((causesT t y).1, 0) := by
  obtain ⟨hT, y0, y1⟩ := ask_ok h
  have hd := dual_ask h
  obtain ⟨_, _, _, g4⟩ := guards_ok (t := t) (node := y) (by rw [guards_ask, h])
  obtain ⟨_, _, _, c4⟩ := causes_ok (t := t) (node := y) (by rw [causes_ask, h])
  obtain ⟨_, _, _, dg4⟩ := guards_ok (t := dualT t) (node := y) (by rw [guards_ask, hd])
  obtain ⟨_, _, _, dc4⟩ := causes_ok (t := dualT t) (node := y) (by rw [causes_ask, hd])
  refine ⟨Prod.ext ?_ (by rw [causes_ask, hd]), Prod.ext ?_ (by rw [guards_ask, hd])⟩
  · rw [dc4, g4, dual_bas]
    refine congrArg _ (least_congr fun s hs => dual_cause hT (sub_bas_iff.1 hs) (by omega))
  · rw [dg4, c4, dual_bas]
    refine congrArg _ (least_congr fun s hs => dual_sound hT (sub_bas_iff.1 hs) (by omega))

/-- The node without hold. -/
def nohNd (x : Nd) : Nd := { x with hold := 0 }
def nohT (t : List Nd) : List Nd := t.map nohNd
theorem noh_same (x : Nd) : SameNd x (nohNd x) := ⟨rfl, rfl, Iff.rfl⟩
theorem noh_tr {t : List Nd} (h : TrOk t) : TrOk (nohT t) := TrOk_map noh_same h fun _ _ _ ok =>
  ⟨ok.name, by rw [anyB_map noh_same]; exact ok.own, ok.k1, ok.k4, ok.b0, ok.l1, ok.l10, ok.ins, ok.nd, ok.c4, ok.c0, Int.le_refl _, show (0 : Int) ≤ 100 by decide, fun _ => rfl⟩
theorem noh_hold {t : List Nd} : ∀ x ∈ nohT t, x.hold = 0 := fun x hx => by
  obtain ⟨y, _, rfl⟩ := List.mem_map.1 hx
  rfl

/-- The nodes that have failed at a tick, and those of them that are basic. -/
def nowL (t : List Nd) (own : Nat → List Sp) (K : Int) : List Int := ((List.range t.length).filter fun i => cov (spL t own i) K).map Int.ofNat
def nowB (t : List Nd) (own : Nat → List Sp) (K : Int) : List Int := ((List.range t.length).filter fun i => cov (spL t own i) K && isBas t i).map Int.ofNat
theorem mem_nowB {t : List Nd} {own : Nat → List Sp} {K : Int} {i : Nat} : (i : Int) ∈ nowB t own K ↔ cov (spL t own i) K = true ∧ isBas t i = true := by
  unfold nowB
  rw [List.mem_map]
  constructor
  · rintro ⟨j, hj, e⟩
    obtain rfl : j = i := by have : (j : Int) = (i : Int) := e; omega
    rw [List.mem_filter, Bool.and_eq_true] at hj
    exact hj.2
  · intro h
    exact ⟨i, by rw [List.mem_filter, Bool.and_eq_true, List.mem_range]; exact ⟨isBas_lt h.2, h⟩, rfl⟩
theorem map_sorted {p : Nat → Bool} (n : Nat) : (((List.range n).filter p).map Int.ofNat).Pairwise (· < ·) := by
  rw [List.pairwise_map]
  exact (List.Pairwise.filter _ List.pairwise_lt_range).imp fun h => by simpa using h
theorem nowB_ok (t : List Nd) (own : Nat → List Sp) (K : Int) : setT t (nowB t own K) = 0 := by
  unfold setT
  rw [lstGo_ok]
  refine ⟨fun n hn => ⟨?_, by simp⟩, (map_sorted t.length).imp fun h => Int.ne_of_lt h⟩
  have h0 : 0 ≤ n := by
    unfold nowB at hn
    obtain ⟨j, _, rfl⟩ := List.mem_map.1 hn
    exact Int.natCast_nonneg _
  obtain ⟨i, rfl⟩ : ∃ i : Nat, n = (i : Int) := ⟨n.toNat, by omega⟩
  rw [basI_iff]
  exact ⟨h0, (mem_nowB.1 hn).2⟩
theorem nowB_len (t : List Nd) (own : Nat → List Sp) (K : Int) : (nowB t own K).length ≤ t.length ∧ (nowL t own K).length ≤ t.length := by
  unfold nowB nowL
  rw [List.length_map, List.length_map]
  have h1 := List.length_filter_le (fun i => cov (spL t own i) K && isBas t i) (List.range t.length)
  have h2 := List.length_filter_le (fun i => cov (spL t own i) K) (List.range t.length)
  rw [List.length_range] at h1 h2
  exact ⟨h1, h2⟩
/-- In a run without holds the nodes that have failed are the effects of the basic ones. -/
theorem now_ok {t : List Nd} (hT : TrOk t) (h0 : ∀ x ∈ t, x.hold = 0) {l : List Sp} (h : spErr t l = 0) {N K : Int} (hK : 0 ≤ K) : effectsT t (nowB t (ownR l N) K) = (0, nowL t (ownR l N) K) := by
  rw [effectsT_eq, if_neg (fun c => c (chkT_ok.2 hT)), if_neg (fun c => c (nowB_ok t _ K))]
  refine congrArg _ ?_
  unfold effL nowL
  refine congrArg _ (List.filter_congr fun i hi => ?_)
  rw [List.mem_range] at hi
  obtain ⟨k, rfl⟩ : ∃ k : Nat, K = (k : Int) := ⟨K.toNat, by omega⟩
  have hR : ∀ i, i < t.length → cov (spL t (ownR l N) i) (k : Int) = ef t (fun j => cov (filO (ownR l N) j) (k : Int)) i := fun i hi => by
    rw [spL_fil]
    obtain ⟨_, _, h3⟩ := spL_spec hT (own := filO (ownR l N)) (hi := N) (fun i _ => ownR_inR h i) i hi
    rw [h3, ft_now hT h0]
  rw [hR i hi]
  refine ef_congr hT (fun j x hx h1 => ?_) i
  have hj : j < t.length := (List.getElem?_eq_some_iff.1 hx).1
  have hb : isBas t j = true := by rw [isBas_kind hx, h1]; rfl
  rw [Bool.eq_iff_iff, decide_eq_true_eq, mem_nowB, hR j hj, ef_eq hT _ hx, if_pos h1]
  exact ⟨fun h => h.1, fun h => ⟨h, hb⟩⟩
/-- Both lists, step by step. -/
def nowBk (t : List Nd) (own : Nat → List Sp) (K : Int) (k : Nat) : List Int := ((List.range k).filter fun i => cov (spL t own i) K && isBas t i).map Int.ofNat
def nowLk (t : List Nd) (own : Nat → List Sp) (K : Int) (k : Nat) : List Int := ((List.range k).filter fun i => cov (spL t own i) K).map Int.ofNat
theorem nowBk_succ (t : List Nd) (own : Nat → List Sp) (K : Int) (k : Nat) : nowBk t own K (k + 1) = nowBk t own K k ++ if (cov (spL t own k) K && isBas t k) = true then [(k : Int)] else [] := by
  unfold nowBk
  rw [List.range_succ, List.filter_append, List.map_append]
  congr 1
  rw [List.filter_cons]
  split <;> rfl
theorem nowLk_succ (t : List Nd) (own : Nat → List Sp) (K : Int) (k : Nat) : nowLk t own K (k + 1) = nowLk t own K k ++ if cov (spL t own k) K = true then [(k : Int)] else [] := by
  unfold nowLk
  rw [List.range_succ, List.filter_append, List.map_append]
  congr 1
  rw [List.filter_cons]
  split <;> rfl
theorem nowBk_len (t : List Nd) (own : Nat → List Sp) (K : Int) (k : Nat) : (nowBk t own K k).length ≤ k ∧ (nowLk t own K k).length ≤ k := by
  unfold nowBk nowLk
  rw [List.length_map, List.length_map]
  have h1 := List.length_filter_le (fun i => cov (spL t own i) K && isBas t i) (List.range k)
  have h2 := List.length_filter_le (fun i => cov (spL t own i) K) (List.range k)
  rw [List.length_range] at h1 h2
  exact ⟨h1, h2⟩
end Go.Proofs.Ytadldndpphdmpaa
