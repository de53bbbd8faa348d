/-
  The plain laws of the views: ascending lists, lists of accepted members, what joining, leaving, splitting and merging come to. No program in sight.
-/
import Derived.Test.YtehgipbedlamaaaLists
namespace Go.Proofs.Ytehgipbedlamaaa
set_option linter.unusedVariables false

def AscTo (xs : List Int) (k : Nat) : Prop := ∀ i, i + 1 < k → xs.getD i 0 < xs.getD (i + 1) 0
/-- A list ascends strictly. -/
def ascB (xs : List Int) : Bool := (List.range (xs.length - 1)).all fun i => decide (xs.getD i 0 < xs.getD (i + 1) 0)
theorem ascB_iff (xs : List Int) : ascB xs = true ↔ AscTo xs xs.length := by
  simp only [ascB, List.all_eq_true, List.mem_range, decide_eq_true_eq, AscTo]
  exact ⟨fun h i hi => h i (by omega), fun h i hi => h i (by omega)⟩
theorem asc_one (xs : List Int) : AscTo xs 1 := fun i hi => by omega
theorem asc_zero (xs : List Int) : AscTo xs 0 := fun i hi => by omega
theorem asc_step {xs : List Int} {k : Nat} {x y : Int} (h : AscTo xs (k + 1)) (h1 : xs[k]? = some y) (h2 : xs[k + 1]? = some x) (hlt : y < x) : AscTo xs (k + 2) := by
  intro i hi
  by_cases e : i = k
  · subst e
    simpa [List.getD_eq_getElem?_getD, h1, h2] using hlt
  · exact h i (by omega)
theorem asc_step' {xs : List Int} {j k : Nat} {x y : Int} (h : AscTo xs j) (e : j = k + 1) (h1 : xs[k]? = some y) (h2 : xs[j]? = some x) (hlt : y < x) : AscTo xs (j + 1) := by
  subst e
  exact asc_step h h1 h2 hlt
theorem asc_break {xs : List Int} {k : Nat} {x y : Int} (h1 : xs[k]? = some y) (h2 : xs[k + 1]? = some x) (hle : x ≤ y) : ascB xs = false := by
  cases h : ascB xs with
  | false => rfl
  | true =>
    have hl := (List.getElem?_eq_some_iff.1 h2).1
    have := (ascB_iff xs).1 h k hl
    simp [List.getD_eq_getElem?_getD, h1, h2] at this
    omega
theorem asc_all {xs : List Int} {k : Nat} (h : AscTo xs k) (hk : xs.length ≤ k) : ascB xs = true := (ascB_iff xs).2 fun i hi => h i (by omega)
theorem pairwise_of_asc {xs : List Int} (h : ascB xs = true) : xs.Pairwise (· < ·) := by
  have h := (ascB_iff xs).1 h
  rw [List.pairwise_iff_getElem]
  intro i j hi hj hij
  have key : ∀ d, ∀ (hd : i + d + 1 < xs.length), xs[i]'hi < xs[i + d + 1]'hd := by
    intro d
    induction d with
    | zero =>
      intro hd
      have := h i hd
      simpa [List.getD_eq_getElem?_getD, hi, hd] using this
    | succ d ih =>
      intro hd
      have h1 := ih (by omega)
      have h2 := h (i + d + 1) (by omega)
      simp [List.getD_eq_getElem?_getD, show i + d + 1 < xs.length by omega, show i + d + 1 + 1 < xs.length by omega] at h2
      have e : i + (d + 1) + 1 = i + d + 1 + 1 := by omega
      simp only [e]
      omega
  have := key (j - i - 1) (by omega)
  simpa [show i + (j - i - 1) + 1 = j by omega] using this
theorem asc_of_pairwise {xs : List Int} (h : xs.Pairwise (· < ·)) : ascB xs = true := by
  rw [ascB_iff]
  rw [List.pairwise_iff_getElem] at h
  intro i hi
  have := h i (i + 1) (by omega) hi (by omega)
  simpa [List.getD_eq_getElem?_getD, show i < xs.length by omega, hi] using this
theorem sorted_ext : ∀ {xs ys : List Int}, xs.Pairwise (· < ·) → ys.Pairwise (· < ·) → (∀ x, x ∈ xs ↔ x ∈ ys) → xs = ys
  | [], [], _, _, _ => rfl
  | [], y :: ys, _, _, h => absurd ((h y).2 (by simp)) (by simp)
  | x :: xs, [], _, _, h => absurd ((h x).1 (by simp)) (by simp)
  | x :: xs, y :: ys, hx, hy, h => by
    rw [List.pairwise_cons] at hx hy
    have hxy : x = y := by
      have h1 := (h x).1 (by simp)
      have h2 := (h y).2 (by simp)
      simp only [List.mem_cons] at h1 h2
      rcases h1 with h1 | h1
      · exact h1
      · rcases h2 with h2 | h2
        · exact h2.symm
        · have := hx.1 y h2; have := hy.1 x h1; omega
    subst hxy
    have e : xs = ys := sorted_ext hx.2 hy.2 fun z => by
      have hz := h z
      simp only [List.mem_cons] at hz
      constructor
      · intro h1
        rcases hz.1 (.inr h1) with e | e
        · have := hx.1 z h1; omega
        · exact e
      · intro h1
        rcases hz.2 (.inr h1) with e | e
        · have := hy.1 z h1; omega
        · exact e
    rw [e]

/-- n is on the list. -/
def hasB (xs : List Int) (n : Int) : Bool := xs.any fun x => x == n
theorem hasB_iff {xs : List Int} {n : Int} : hasB xs n = true ↔ n ∈ xs := by
  simp only [hasB, List.any_eq_true, beq_iff_eq]
  exact ⟨fun ⟨x, h, e⟩ => e ▸ h, fun h => ⟨n, h, rfl⟩⟩
theorem hasB_no {xs : List Int} {n : Int} : hasB xs n = false ↔ n ∉ xs := by rw [← hasB_iff]; simp
theorem has_nil (n : Int) : hasB [] n = false := rfl
theorem has_hit {xs : List Int} {k : Nat} {x n : Int} (h : xs[k]? = some x) (e : (x == n) = true) : hasB xs n = true := by
  rw [hasB_iff]
  have : x = n := by simpa using e
  exact this ▸ List.mem_of_getElem? h
theorem has_snoc {xs ys : List Int} {x n : Int} (h : ys = xs ++ [x]) (e : (x == n) = false) (ha : hasB xs n = false) : hasB ys n = false := by
  subst h
  simp [hasB] at *
  exact ⟨ha, e⟩

def memB (xs : List Int) : Bool := inR xs 0 7 && ascB xs
/-- A view is valid. -/
def vvB (q : Int) (xs : List Int) : Bool := inB q 0 99 && decide (0 < xs.length) && memB xs
theorem inR_iff {xs : List Int} {lo hi : Int} : inR xs lo hi = true ↔ ∀ x ∈ xs, lo ≤ x ∧ x ≤ hi := by
  simp [inR, inB]
theorem vv_mem {q : Int} {xs : List Int} (h : vvB q xs = true) : (∀ x ∈ xs, 0 ≤ x ∧ x ≤ 7) ∧ xs.Pairwise (· < ·) := by
  simp only [vvB, memB, Bool.and_eq_true] at h
  exact ⟨inR_iff.1 h.2.1, pairwise_of_asc h.2.2⟩
theorem vv_q {q : Int} {xs : List Int} (h : vvB q xs = true) : 0 ≤ q ∧ q ≤ 99 := by
  simp only [vvB, inB, Bool.and_eq_true, decide_eq_true_eq] at h
  exact h.1.1
theorem vv_pos {q : Int} {xs : List Int} (h : vvB q xs = true) : 0 < xs.length := by
  simp only [vvB, Bool.and_eq_true, decide_eq_true_eq] at h
  exact h.1.2
theorem vv_mk {q : Int} {xs : List Int} (h0 : 0 ≤ q) (h9 : q ≤ 99) (hp : 0 < xs.length) (hm : ∀ x ∈ xs, 0 ≤ x ∧ x ≤ 7) (ha : xs.Pairwise (· < ·)) : vvB q xs = true := by
  simp only [vvB, memB, inB, Bool.and_eq_true, decide_eq_true_eq]
  exact ⟨⟨⟨h0, h9⟩, hp⟩, inR_iff.2 hm, asc_of_pairwise ha⟩
/-- A strictly ascending list from 0 to 7 has at most eight elements. -/
theorem sorted_len : ∀ (b : Nat) {xs : List Int}, (∀ x ∈ xs, 8 - (b : Int) ≤ x ∧ x ≤ 7) → xs.Pairwise (· < ·) → xs.length ≤ b
  | 0, [], _, _ => by simp
  | 0, x :: xs, h, _ => by have := h x (by simp); omega
  | b + 1, [], _, _ => by simp
  | b + 1, x :: xs, h, hp => by
    rw [List.pairwise_cons] at hp
    have := sorted_len b (xs := xs) (fun y hy => by have := hp.1 y hy; have := h x (by simp); have := h y (by simp [hy]); omega) hp.2
    simp; omega
theorem vv_len {q : Int} {xs : List Int} (h : vvB q xs = true) : xs.length ≤ 8 :=
  sorted_len 8 (fun x hx => by have := (vv_mem h).1 x hx; omega) (vv_mem h).2

/-- The members from 0 to 7 that p accepts; the first k of them. -/
def accK (p : Int → Bool) (k : Nat) : List Int := ((List.range k).map fun (i : Nat) => (i : Int)).filter p
def accL (p : Int → Bool) : List Int := accK p 8
theorem accK_zero (p : Int → Bool) : accK p 0 = [] := rfl
theorem accK_yes {p : Int → Bool} {k : Nat} (h : p (k : Int) = true) : accK p (k + 1) = accK p k ++ [(k : Int)] := by simp [accK, List.range_succ, h]
theorem accK_no {p : Int → Bool} {k : Nat} (h : p (k : Int) = false) : accK p (k + 1) = accK p k := by simp [accK, List.range_succ, h]
theorem accK_len (p : Int → Bool) (k : Nat) : (accK p k).length ≤ k := by
  have := List.length_filter_le p ((List.range k).map fun (i : Nat) => (i : Int))
  simpa [accK] using this
theorem mem_acc {p : Int → Bool} {x : Int} : x ∈ accL p ↔ (0 ≤ x ∧ x ≤ 7) ∧ p x = true := by
  simp only [accL, accK, List.mem_filter, List.mem_map, List.mem_range]
  constructor
  · rintro ⟨⟨i, hi, rfl⟩, h⟩
    exact ⟨⟨by omega, by omega⟩, h⟩
  · rintro ⟨⟨h0, h7⟩, h⟩
    exact ⟨⟨x.toNat, by omega, by omega⟩, h⟩
theorem acc_sorted (p : Int → Bool) : (accL p).Pairwise (· < ·) := by
  unfold accL accK
  exact List.Pairwise.filter _ (by decide)
theorem acc_congr {p p' : Int → Bool} (h : ∀ x, 0 ≤ x → x ≤ 7 → p x = p' x) : accL p = accL p' :=
  sorted_ext (acc_sorted _) (acc_sorted _) fun x => by
    rw [mem_acc, mem_acc]
    constructor
    · rintro ⟨hx, hp⟩; exact ⟨hx, by rw [← h x hx.1 hx.2]; exact hp⟩
    · rintro ⟨hx, hp⟩; exact ⟨hx, by rw [h x hx.1 hx.2]; exact hp⟩
/-- A valid view's members are those that it has. -/
theorem acc_eq {p : Int → Bool} {ys : List Int} (hm : ∀ x ∈ ys, 0 ≤ x ∧ x ≤ 7) (hs : ys.Pairwise (· < ·)) (h : ∀ x, 0 ≤ x → x ≤ 7 → (p x = true ↔ x ∈ ys)) : accL p = ys :=
  sorted_ext (acc_sorted _) hs fun x => by
    rw [mem_acc]
    constructor
    · rintro ⟨hx, hp⟩; exact (h x hx.1 hx.2).1 hp
    · intro hx; exact ⟨hm x hx, (h x (hm x hx).1 (hm x hx).2).2 hx⟩
theorem acc_has {q : Int} {xs : List Int} (h : vvB q xs = true) : accL (hasB xs) = xs :=
  acc_eq (vv_mem h).1 (vv_mem h).2 fun x _ _ => hasB_iff
theorem has_acc {p : Int → Bool} {x : Int} (h0 : 0 ≤ x) (h7 : x ≤ 7) : hasB (accL p) x = p x := by
  cases h : p x with
  | true => exact hasB_iff.2 (mem_acc.2 ⟨⟨h0, h7⟩, h⟩)
  | false => exact hasB_no.2 fun hx => by rw [(mem_acc.1 hx).2] at h; cases h
theorem vv_acc {q : Int} {p : Int → Bool} (h0 : 0 ≤ q) (h9 : q ≤ 99) {x : Int} (hx0 : 0 ≤ x) (hx7 : x ≤ 7) (hx : p x = true) : vvB q (accL p) = true :=
  vv_mk h0 h9 (List.length_pos_of_mem (mem_acc.2 ⟨⟨hx0, hx7⟩, hx⟩)) (fun y hy => (mem_acc.1 hy).1) (acc_sorted p)
theorem vv_acc_q {q q' : Int} {p : Int → Bool} (h : vvB q' (accL p) = true) (h0 : 0 ≤ q) (h9 : q ≤ 99) : vvB q (accL p) = true :=
  vv_mk h0 h9 (vv_pos h) (fun y hy => (mem_acc.1 hy).1) (acc_sorted p)

/-- What comes of a view that is wanted if b, of number q and members L. -/
def gB (b : Bool) (q : Int) (L : List Int) : Bool := b && vvB q L
def gQ (b : Bool) (q : Int) (L : List Int) : Int := if gB b q L then q else 0
def gX (b : Bool) (q : Int) (L : List Int) : List Int := if gB b q L then L else []
theorem gX_len (b : Bool) (q : Int) (L : List Int) : (gX b q L).length ≤ 8 := by
  unfold gX
  split
  · rename_i h
    simp only [gB, Bool.and_eq_true] at h
    exact vv_len h.2
  · simp
theorem gQ_range (b : Bool) (q : Int) (L : List Int) : 0 ≤ gQ b q L ∧ gQ b q L ≤ 99 := by
  unfold gQ
  split
  · rename_i h
    simp only [gB, Bool.and_eq_true] at h
    exact vv_q h.2
  · omega

/-- Joining. -/
def joinOk (q : Int) (xs : List Int) (m : Int) : Bool := vvB q xs && inB m 0 7 && !hasB xs m
def joinL (xs : List Int) (m : Int) : List Int := accL fun x => x == m || hasB xs x
/-- Leaving. -/
def leaveOk (q : Int) (xs : List Int) (m : Int) : Bool := vvB q xs && hasB xs m
def leaveL (xs : List Int) (m : Int) : List Int := accL fun x => x != m && hasB xs x
/-- Splitting. -/
def lowL (xs : List Int) (a : Int) : List Int := accL fun x => decide (x < a) && hasB xs x
def highL (xs : List Int) (a : Int) : List Int := accL fun x => decide (a ≤ x) && hasB xs x
def splitOk (q : Int) (xs : List Int) (a : Int) : Bool := vvB q xs && vvB (q + 1) (lowL xs a) && vvB (q + 1) (highL xs a)
/-- Merging. -/
def bothB (xs ys : List Int) : Bool := xs.any fun x => hasB ys x
def mergeOk (q : Int) (xs : List Int) (p : Int) (ys : List Int) : Bool := vvB q xs && vvB p ys && !bothB xs ys
def mergeL (xs ys : List Int) : List Int := accL fun x => hasB xs x || hasB ys x

/-- An element laid at its place. -/
theorem ins_eq {q : Int} {xs : List Int} {m : Int} {k : Nat} (hv : vvB q xs = true) (hn : hasB xs m = false) (hm0 : 0 ≤ m) (hm7 : m ≤ 7) (hk : k ≤ xs.length)
    (hlo : ∀ x ∈ xs.take k, x < m) (hhi : ∀ x, xs[k]? = some x → m ≤ x) : xs.take k ++ [m] ++ xs.drop k = joinL xs m := by
  obtain ⟨h1, h2⟩ := vv_mem hv
  have hd : ∀ x ∈ xs.drop k, m < x := by
    intro x hx
    have hne : x ≠ m := fun e => by subst e; exact absurd (List.mem_of_mem_drop hx) (hasB_no.1 hn)
    have hlt : k < xs.length := by
      rcases Nat.lt_or_ge k xs.length with h | h
      · exact h
      · rw [List.drop_eq_nil_of_le h] at hx; cases hx
    have hk2 := hhi _ (List.getElem?_eq_getElem hlt)
    have hdp := List.Pairwise.drop (i := k) h2
    rw [List.drop_eq_getElem_cons hlt] at hx hdp
    rw [List.pairwise_cons] at hdp
    rcases List.mem_cons.1 hx with e | e
    · omega
    · have := hdp.1 x e; omega
  refine (acc_eq ?_ ?_ ?_).symm
  · intro x hx
    simp only [List.mem_append, List.mem_singleton] at hx
    rcases hx with (hx | hx) | hx
    · exact h1 x (List.mem_of_mem_take hx)
    · subst hx; exact ⟨hm0, hm7⟩
    · exact h1 x (List.mem_of_mem_drop hx)
  · rw [List.append_assoc, List.pairwise_append]
    refine ⟨List.Pairwise.take h2, ?_, ?_⟩
    · rw [List.singleton_append, List.pairwise_cons]
      exact ⟨hd, List.Pairwise.drop h2⟩
    · intro a ha b hb
      simp only [List.singleton_append, List.mem_cons] at hb
      have := hlo a ha
      rcases hb with e | e
      · omega
      · have := hd b e; omega
  · intro x _ _
    simp only [Bool.or_eq_true, beq_iff_eq, hasB_iff, List.mem_append, List.mem_singleton]
    have e : x ∈ xs ↔ x ∈ xs.take k ∨ x ∈ xs.drop k := by rw [← List.mem_append, List.take_append_drop]
    rw [e]
    constructor
    · rintro (h | h | h)
      · exact .inl (.inr h)
      · exact .inl (.inl h)
      · exact .inr h
    · rintro ((h | h) | h)
      · exact .inr (.inl h)
      · exact .inl h
      · exact .inr (.inr h)
theorem ins_bad {q : Int} {xs : List Int} {m : Int} {k : Nat} (h : m < 0 ∨ 7 < m) : vvB q (xs.take k ++ [m] ++ xs.drop k) = false := by
  cases hv : vvB q (xs.take k ++ [m] ++ xs.drop k) with
  | false => rfl
  | true => have := (vv_mem hv).1 m (by simp); omega
theorem filter_eq {q : Int} {xs : List Int} (hv : vvB q xs = true) (f : Int → Bool) : xs.filter f = accL fun x => f x && hasB xs x := by
  obtain ⟨h1, h2⟩ := vv_mem hv
  refine (acc_eq (fun x hx => h1 x (List.mem_filter.1 hx).1) (List.Pairwise.filter _ h2) fun x _ _ => ?_).symm
  simp only [Bool.and_eq_true, hasB_iff, List.mem_filter]
  exact ⟨fun h => ⟨h.2, h.1⟩, fun h => ⟨h.2, h.1⟩⟩
end Go.Proofs.Ytehgipbedlamaaa
