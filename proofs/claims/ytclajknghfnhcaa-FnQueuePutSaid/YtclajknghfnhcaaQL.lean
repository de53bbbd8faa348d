/-
  Plain laws of the queue's functions: no program in sight.
-/
import Derived.Test.YtclajknghfnhcaaQ4
import Derived.Test.YtclajknghfnhcaaQ5
import Derived.Test.YtclajknghfnhcaaQ6
namespace Go.Proofs.Ytclajknghfnhcaa

theorem inR_append (xs ys : List Int) (lo hi : Int) : inR (xs ++ ys) lo hi = (inR xs lo hi && inR ys lo hi) := by simp [inR]
theorem inR_one (x lo hi : Int) : inR [x] lo hi = inB x lo hi := by simp [inR]
theorem put_true {xs ys : List Int} {x : Int} (h : putB xs ys x = true) : putItems xs ys x = xs ++ [x] ∧ putTaken xs ys x = ys ∧ putOk xs ys x = true ∧ xs.length < 20 := by
  simp only [putB, Bool.and_eq_true, decide_eq_true_eq] at h
  obtain ⟨h1, h2⟩ := h
  obtain ⟨e1, e2, _⟩ := put_yes h1 h2
  exact ⟨e1, e2, h1, h2⟩
theorem qv_put {xs ys : List Int} {x : Int} (h : putB xs ys x = true) : qvB (xs ++ [x]) ys = true := by
  obtain ⟨_, _, h1, h2⟩ := put_true h
  simp only [putOk, qvB, Bool.and_eq_true, decide_eq_true_eq] at h1
  obtain ⟨⟨⟨⟨h3, h4⟩, h5⟩, h6⟩, h7⟩ := h1
  simp only [qvB, inR_append, inR_one, Bool.and_eq_true, decide_eq_true_eq, List.length_append, List.length_singleton]
  exact ⟨⟨⟨by omega, h4, h7⟩, by omega⟩, h6⟩
theorem put_again {xs ys : List Int} {x : Int} (hv : qvB xs ys = true) (hx : 0 ≤ x) (hx' : x ≤ 999) (hl : xs.length < 20) : putB xs ys x = true := by
  simp [putB, putOk, hv, inB, hx, hx', hl]
theorem take_true {xs ys : List Int} {who : Int} (h : takeB xs ys who = true) : takeItems xs ys who = xs ∧ takeTaken xs ys who = ys ++ [who] ∧ takeItem xs ys who = xs.getD ys.length 0 ∧ qvB xs ys = true ∧ inB who 0 3 = true ∧ ys.length < xs.length := by
  have hh := h
  simp only [takeB, takeOk, Bool.and_eq_true, decide_eq_true_eq] at h
  obtain ⟨⟨h1, h2⟩, h3⟩ := h
  have hok : takeOk xs ys who = true := by simp [takeOk, h1, h2]
  refine ⟨by simp [takeItems, hok], by simp [takeTaken, hok, h3], by simp [takeItem, hh], h1, h2, h3⟩
theorem qv_take {xs ys : List Int} {who : Int} (h : takeB xs ys who = true) : qvB xs (ys ++ [who]) = true := by
  obtain ⟨_, _, _, h1, h2, h3⟩ := take_true h
  simp only [qvB, Bool.and_eq_true, decide_eq_true_eq] at h1
  simp only [qvB, inR_append, inR_one, Bool.and_eq_true, decide_eq_true_eq, List.length_append, List.length_singleton]
  exact ⟨⟨h1.1.1, by omega⟩, h1.2, h2⟩
theorem take_again {xs ys : List Int} {who : Int} (hv : qvB xs ys = true) (hw : inB who 0 3 = true) (hl : ys.length < xs.length) : takeB xs ys who = true := by
  simp [takeB, takeOk, hv, hw, hl]
/-- What the two takes behind two puts give. -/
theorem two_items (xs ys : List Int) (a b : Int) (h : ys.length = xs.length) : (xs ++ [a] ++ [b]).getD ys.length 0 = a ∧ (xs ++ [a] ++ [b]).getD (ys ++ [0]).length 0 = b := by
  constructor
  · rw [h]; simp
  · simp [h]
theorem take_law {xs ys : List Int} {who a : Int} {k : Nat} (hv : qvB xs ys = true) (hw : inB who 0 3 = true) (hk : ys.length = k) (hx : xs[k]? = some a) : takeB xs ys who = true ∧ takeItems xs ys who = xs ∧ takeTaken xs ys who = ys ++ [who] ∧ takeItem xs ys who = a := by
  subst hk
  have hl : ys.length < xs.length := (List.getElem?_eq_some_iff.1 hx).1
  have hB := take_again hv hw hl
  obtain ⟨e1, e2, e3, _⟩ := take_true hB
  refine ⟨hB, e1, e2, ?_⟩
  rw [e3, List.getD_eq_getElem?_getD, hx]; rfl
theorem qofK_length (xs ys : List Int) (who : Int) (k : Nat) : (qofK xs ys who k).length = ((List.range k).filter fun i => ys.getD i 0 == who).length := by simp [qofK]
theorem qofK_snoc (xs ys : List Int) (who w2 : Int) (k : Nat) (hk : k ≤ ys.length) : qofK xs (ys ++ [w2]) who k = qofK xs ys who k := by
  unfold qofK
  congr 1
  refine List.filter_congr fun i hi => ?_
  have hi' : i < ys.length := by have := List.mem_range.1 hi; omega
  simp [List.getD_eq_getElem?_getD, List.getElem?_append_left hi']
/-- What a consumer has behind a take. -/
theorem qof_take {xs ys : List Int} {who : Int} (h : takeB xs ys who = true) : qof xs (ys ++ [who]) who = qof xs ys who ++ [xs.getD ys.length 0] := by
  obtain ⟨_, _, _, h1, _, h3⟩ := take_true h
  have h2 := qv_take h
  simp only [qof, h1, h2, if_true, List.length_append, List.length_singleton]
  have e : xs[ys.length]? = some (xs.getD ys.length 0) := by simp [h3]
  rw [qofK_yes (y := who) (x := xs.getD ys.length 0) (by simp) e (by simp), qofK_snoc _ _ _ _ _ (Nat.le_refl _)]
theorem qof_other {xs ys : List Int} {who other : Int} (h : takeB xs ys who = true) (hne : (who == other) = false) : qof xs (ys ++ [who]) other = qof xs ys other := by
  obtain ⟨_, _, _, h1, _, h3⟩ := take_true h
  have h2 := qv_take h
  simp only [qof, h1, h2, if_true, List.length_append, List.length_singleton]
  rw [qofK_no (y := who) (by simp) hne, qofK_snoc _ _ _ _ _ (Nat.le_refl _)]
theorem qleft_take {xs ys : List Int} {who : Int} (h : takeB xs ys who = true) : qleft xs ys = xs.getD ys.length 0 :: qleft xs (ys ++ [who]) := by
  obtain ⟨_, _, _, h1, _, h3⟩ := take_true h
  have h2 := qv_take h
  simp only [qleft, h1, h2, if_true, List.length_append, List.length_singleton]
  rw [List.drop_eq_getElem_cons h3]; simp [h3]
theorem qleft_put {xs ys : List Int} {x : Int} (h : putB xs ys x = true) : qleft (xs ++ [x]) ys = qleft xs ys ++ [x] := by
  obtain ⟨_, _, h1, _⟩ := put_true h
  have hv := qv_put h
  have hv' : qvB xs ys = true := by simp only [putOk, Bool.and_eq_true] at h1; exact h1.1
  have := (qv_len hv').2
  simp only [qleft, hv, hv', if_true]
  rw [List.drop_append_of_le_length this]
/-- How many items the consumers below k have. -/
def onceN (xs ys : List Int) (k : Nat) : Nat := ((List.range k).map fun (c : Nat) => (qof xs ys (c : Int)).length).sum
theorem onceN_zero (xs ys : List Int) : onceN xs ys 0 = 0 := rfl
theorem onceN_succ (xs ys : List Int) (k : Nat) : onceN xs ys (k + 1) = onceN xs ys k + (qof xs ys (k : Int)).length := by simp [onceN, List.range_succ]
theorem once_step (xs ys : List Int) (hr : inR ys 0 3 = true) (k : Nat) (hk : k ≤ ys.length) :
    (qofK xs ys 0 k).length + (qofK xs ys 1 k).length + (qofK xs ys 2 k).length + (qofK xs ys 3 k).length = k := by
  induction k with
  | zero => simp [qofK]
  | succ k ih =>
    have ih' := ih (by omega)
    have hlt : k < ys.length := by omega
    have hy : ys[k]? = some ys[k] := List.getElem?_eq_getElem hlt
    have hin : 0 ≤ ys[k] ∧ ys[k] ≤ 3 := by
      have := List.all_eq_true.1 hr ys[k] (List.getElem_mem hlt)
      simpa [inB] using this
    have e : ys.getD k 0 = ys[k] := by simp [hlt]
    have st : ∀ who : Int, (qofK xs ys who (k + 1)).length = (qofK xs ys who k).length + (if ys[k] = who then 1 else 0) := by
      intro who
      simp only [qofK_length, List.range_succ, List.filter_append, List.length_append, List.filter_cons, List.filter_nil, e]
      by_cases h : ys[k] = who <;> simp [h]
    rw [st 0, st 1, st 2, st 3]
    clear st
    rcases (by omega : ys[k] = 0 ∨ ys[k] = 1 ∨ ys[k] = 2 ∨ ys[k] = 3) with h | h | h | h <;> simp [h] <;> omega
theorem once_all {xs ys : List Int} (hv : qvB xs ys = true) : onceN xs ys 4 = ys.length := by
  have hr : inR ys 0 3 = true := by simp only [qvB, Bool.and_eq_true] at hv; exact hv.2
  have := once_step xs ys hr ys.length (Nat.le_refl _)
  simp only [onceN_succ, onceN_zero, qof, hv, if_true]
  simp only [Int.natCast_zero, Nat.zero_add]
  show (qofK xs ys 0 ys.length).length + (qofK xs ys 1 ys.length).length + (qofK xs ys 2 ys.length).length + (qofK xs ys 3 ys.length).length = ys.length
  exact this
/-- The order of what a consumer has. -/
theorem qofK_prefix (xs ys : List Int) (who : Int) (k m : Nat) (h : k ≤ m) : ∃ r, qofK xs ys who m = qofK xs ys who k ++ r := by
  induction m with
  | zero => exact ⟨[], by simp [Nat.le_zero.1 h]⟩
  | succ m ih =>
    rcases Nat.lt_or_ge m k with h1 | h1
    · exact ⟨[], by rw [show k = m + 1 by omega]; simp⟩
    · obtain ⟨r, hr⟩ := ih h1
      refine ⟨r ++ (((List.range' m 1).filter fun i => ys.getD i 0 == who).map fun i => xs.getD i 0), ?_⟩
      have : qofK xs ys who (m + 1) = qofK xs ys who m ++ (((List.range' m 1).filter fun i => ys.getD i 0 == who).map fun i => xs.getD i 0) := by
        unfold qofK
        rw [List.range_succ, List.filter_append, List.map_append]; rfl
      rw [this, hr, List.append_assoc]
theorem order_at {xs ys : List Int} {who x y : Int} {k m : Nat} (hkm : k < m) (hy : ys[k]? = some y) (hx : xs[k]? = some x) (h : (y == who) = true) : (qofK xs ys who k).length < (qofK xs ys who m).length ∧ (qofK xs ys who m)[(qofK xs ys who k).length]? = some x := by
  obtain ⟨r, hr⟩ := qofK_prefix xs ys who (k + 1) m hkm
  rw [hr, qofK_yes hy hx h]
  constructor
  · simp
  · simp
/-- Who takes the first k items. -/
def tk (M k : Nat) : List Int := (List.range k).map fun (i : Nat) => ((i : Int) + (M : Int)) % 4
theorem tk_zero (M : Nat) : tk M 0 = [] := rfl
theorem tk_succ (M k : Nat) : tk M (k + 1) = tk M k ++ [((k : Int) + (M : Int)) % 4] := by simp [tk, List.range_succ]
theorem tk_length (M k : Nat) : (tk M k).length = k := by simp [tk]
end Go.Proofs.Ytclajknghfnhcaa
