/-
  What the views' laws say of the plain functions. No program in sight.
-/
import Derived.Test.YtmjacdcefaohcaaDoorE3S
import Derived.Test.YtmjacdcefaohcaaDoorV4
namespace Go.Proofs.YtmjacdcefaohcaaDoor

theorem g_true {b : Bool} {q : Int} {L : List Int} (h : gB b q L = true) : b = true ∧ vvB q L = true ∧ gQ b q L = q ∧ gX b q L = L := by
  have h' := h
  simp only [gB, Bool.and_eq_true] at h'
  exact ⟨h'.1, h'.2, by simp [gQ, h], by simp [gX, h]⟩
theorem g_mk {b : Bool} {q : Int} {L : List Int} (h : b = true) (h' : vvB q L = true) : gB b q L = true ∧ gQ b q L = q ∧ gX b q L = L := by
  have e : gB b q L = true := by simp [gB, h, h']
  exact ⟨e, by simp [gQ, e], by simp [gX, e]⟩
theorem g_late {b : Bool} {q : Int} {L : List Int} (h : 99 < q) : gB b q L = false := by
  cases e : gB b q L with
  | false => rfl
  | true => have := vv_q (g_true e).2.1; omega
theorem join_ok {q : Int} {xs : List Int} {m : Int} (h : joinOk q xs m = true) : vvB q xs = true ∧ (0 ≤ m ∧ m ≤ 7) ∧ hasB xs m = false := by
  simp only [joinOk, inB, Bool.and_eq_true, decide_eq_true_eq, Bool.not_eq_true'] at h
  exact ⟨h.1.1, h.1.2, h.2⟩
theorem leave_ok {q : Int} {xs : List Int} {m : Int} (h : leaveOk q xs m = true) : vvB q xs = true ∧ hasB xs m = true := by
  simpa [leaveOk] using h
theorem split_ok {q : Int} {xs : List Int} {m : Int} (h : splitOk q xs m = true) : vvB q xs = true ∧ vvB (q + 1) (lowL xs m) = true ∧ vvB (q + 1) (highL xs m) = true := by
  simp only [splitOk, Bool.and_eq_true] at h
  exact ⟨h.1.1, h.1.2, h.2⟩
theorem merge_ok {q p : Int} {xs ys : List Int} (h : mergeOk q xs p ys = true) : vvB q xs = true ∧ vvB p ys = true ∧ bothB xs ys = false := by
  simpa [mergeOk, and_assoc] using h
theorem has_range {q : Int} {xs : List Int} {m : Int} (hv : vvB q xs = true) (h : hasB xs m = true) : 0 ≤ m ∧ m ≤ 7 := (vv_mem hv).1 m (hasB_iff.1 h)
/-- Who left can come back. -/
theorem back_L {q : Int} {xs : List Int} {m : Int} (hv : vvB q xs = true) (hh : hasB xs m = true) : joinL (leaveL xs m) m = xs := by
  refine Eq.trans (acc_congr fun x h0 h7 => ?_) (acc_has hv)
  unfold leaveL
  rw [has_acc h0 h7]
  by_cases e : x = m
  · subst e; simp [hh]
  · have e1 : (x == m) = false := by simp [e]
    have e2 : (x != m) = true := by simp [e]
    simp [e1, e2]
theorem back_ok {q : Int} {xs : List Int} {m : Int} (hok : leaveOk q xs m = true) (hv : vvB (q + 1) (leaveL xs m) = true) : joinOk (q + 1) (leaveL xs m) m = true := by
  obtain ⟨h1, h2⟩ := leave_ok hok
  obtain ⟨h0, h7⟩ := has_range h1 h2
  have h3 : hasB (leaveL xs m) m = false := by
    unfold leaveL
    rw [has_acc h0 h7]
    simp
  simp [joinOk, hv, inB_in h0 h7, h3]
theorem back_yes {q : Int} {xs : List Int} {m : Int} (hok : leaveOk q xs m = true) (hv : vvB (q + 1) (leaveL xs m) = true) (hq : q + 1 < 99) :
    gB (joinOk (q + 1) (leaveL xs m) m) (q + 1 + 1) (joinL (leaveL xs m) m) = true ∧ gQ (joinOk (q + 1) (leaveL xs m) m) (q + 1 + 1) (joinL (leaveL xs m) m) = q + 2 ∧ gX (joinOk (q + 1) (leaveL xs m) m) (q + 1 + 1) (joinL (leaveL xs m) m) = xs := by
  obtain ⟨h1, h2⟩ := leave_ok hok
  have hL := back_L h1 h2
  have hq0 := vv_q h1
  have hv2 : vvB (q + 1 + 1) (joinL (leaveL xs m) m) = true := by
    rw [hL]
    exact vv_mk (by omega) (by omega) (vv_pos h1) (vv_mem h1).1 (vv_mem h1).2
  obtain ⟨g1, g2, g3⟩ := g_mk (back_ok hok hv) hv2
  exact ⟨g1, by rw [g2]; omega, by rw [g3, hL]⟩
/-- What was split can be merged. -/
theorem sm_L {q : Int} {xs : List Int} {m : Int} (hv : vvB q xs = true) : mergeL (lowL xs m) (highL xs m) = xs := by
  refine Eq.trans (acc_congr fun x h0 h7 => ?_) (acc_has hv)
  unfold lowL highL
  rw [has_acc h0 h7, has_acc h0 h7]
  by_cases e : x < m
  · have e2 : ¬ m ≤ x := by omega
    simp [e, e2]
  · have e2 : m ≤ x := by omega
    simp [e, e2]
theorem sm_ok {q : Int} {xs : List Int} {m : Int} (hok : splitOk q xs m = true) : mergeOk (q + 1) (lowL xs m) (q + 1) (highL xs m) = true := by
  obtain ⟨_, h2, h3⟩ := split_ok hok
  have h4 : bothB (lowL xs m) (highL xs m) = false := by
    unfold bothB
    rw [List.any_eq_false]
    intro x hx hy
    have a := mem_acc.1 hx
    have b := mem_acc.1 (hasB_iff.1 hy)
    have a2 := a.2
    have b2 := b.2
    simp at a2 b2
    omega
  simp [mergeOk, h2, h3, h4]
theorem sm_yes {q : Int} {xs : List Int} {m : Int} (hok : splitOk q xs m = true) (hq : q + 1 < 99) :
    gB (mergeOk (q + 1) (lowL xs m) (q + 1) (highL xs m)) (max (q + 1) (q + 1) + 1) (mergeL (lowL xs m) (highL xs m)) = true ∧
    gQ (mergeOk (q + 1) (lowL xs m) (q + 1) (highL xs m)) (max (q + 1) (q + 1) + 1) (mergeL (lowL xs m) (highL xs m)) = q + 2 ∧
    gX (mergeOk (q + 1) (lowL xs m) (q + 1) (highL xs m)) (max (q + 1) (q + 1) + 1) (mergeL (lowL xs m) (highL xs m)) = xs := by
  obtain ⟨h1, _, _⟩ := split_ok hok
  have hL := sm_L (m := m) h1
  have hq0 := vv_q h1
  have hm : max (q + 1) (q + 1) = q + 1 := by omega
  have hv2 : vvB (max (q + 1) (q + 1) + 1) (mergeL (lowL xs m) (highL xs m)) = true := by
    rw [hL, hm]
    exact vv_mk (by omega) (by omega) (vv_pos h1) (vv_mem h1).1 (vv_mem h1).2
  obtain ⟨g1, g2, g3⟩ := g_mk (sm_ok hok) hv2
  exact ⟨g1, by rw [g2]; omega, by rw [g3, hL]⟩
theorem sm_late {q : Int} {xs : List Int} {m : Int} (hq : q + 1 = 99) : gB (mergeOk (q + 1) (lowL xs m) (q + 1) (highL xs m)) (max (q + 1) (q + 1) + 1) (mergeL (lowL xs m) (highL xs m)) = false := g_late (by omega)
/-- The order of two new members does not matter. -/
theorem jo_L (xs : List Int) (m o : Int) : joinL (joinL xs o) m = joinL (joinL xs m) o := by
  refine acc_congr fun x h0 h7 => ?_
  unfold joinL
  rw [has_acc h0 h7, has_acc h0 h7]
  cases (x == m) <;> cases (x == o) <;> simp
theorem jo_yes {q : Int} {xs : List Int} {m o : Int} (h1 : gB (joinOk q xs m) (q + 1) (joinL xs m) = true) (h2 : gB (joinOk (q + 1) (joinL xs m) o) (q + 1 + 1) (joinL (joinL xs m) o) = true) (h3 : gB (joinOk q xs o) (q + 1) (joinL xs o) = true) :
    gB (joinOk (q + 1) (joinL xs o) m) (q + 1 + 1) (joinL (joinL xs o) m) = true ∧ gQ (joinOk (q + 1) (joinL xs o) m) (q + 1 + 1) (joinL (joinL xs o) m) = q + 1 + 1 ∧ gX (joinOk (q + 1) (joinL xs o) m) (q + 1 + 1) (joinL (joinL xs o) m) = joinL (joinL xs m) o := by
  obtain ⟨a1, a2, _, _⟩ := g_true h1
  obtain ⟨b1, b2, _, _⟩ := g_true h2
  obtain ⟨c1, c2, _, _⟩ := g_true h3
  obtain ⟨_, hm, hn⟩ := join_ok a1
  obtain ⟨_, ho, hno⟩ := join_ok b1
  have hne : hasB (joinL xs o) m = false := by
    unfold joinL at hno ⊢
    rw [has_acc ho.1 ho.2] at hno
    rw [has_acc hm.1 hm.2]
    have e : (o == m) = false := by cases h : (o == m) <;> simp_all
    have e' : (m == o) = false := by
      cases h : (m == o) with
      | false => rfl
      | true => rw [beq_iff_eq] at h; rw [h] at e; simp at e
    simp [e', hn]
  have hok : joinOk (q + 1) (joinL xs o) m = true := by simp [joinOk, c2, inB_in hm.1 hm.2, hne]
  have hv : vvB (q + 1 + 1) (joinL (joinL xs o) m) = true := by rw [jo_L]; exact b2
  obtain ⟨g1, g2, g3⟩ := g_mk hok hv
  exact ⟨g1, g2, by rw [g3, jo_L]⟩
theorem sorted_nodup' {xs : List Int} (h : xs.Pairwise (· < ·)) : xs.Nodup := sorted_nodup h
theorem nodup_len' : ∀ {ys xs : List Int}, ys.Nodup → (∀ y ∈ ys, y ∈ xs) → ys.length ≤ xs.length
  | [], _, _, _ => by simp
  | y :: ys, xs, hn, h => by
    rw [List.nodup_cons] at hn
    have hy := h y (by simp)
    have := nodup_len' (ys := ys) (xs := xs.erase y) hn.2 fun z hz => (List.mem_erase_of_ne (fun e => by subst e; exact hn.1 hz)).2 (h z (by simp [hz]))
    rw [List.length_erase_of_mem hy] at this
    have := List.length_pos_of_mem hy
    simp; omega
theorem join_len {q : Int} {xs : List Int} {m : Int} (hok : joinOk q xs m = true) : (joinL xs m).length = xs.length + 1 := by
  obtain ⟨h1, h2, h3⟩ := join_ok hok
  have hmem : ∀ x, x ∈ joinL xs m ↔ x ∈ m :: xs := by
    intro x
    unfold joinL
    rw [mem_acc]
    simp only [Bool.or_eq_true, beq_iff_eq, hasB_iff, List.mem_cons]
    constructor
    · exact fun h => h.2
    · intro h
      refine ⟨?_, h⟩
      rcases h with e | e
      · subst e; exact h2
      · exact (vv_mem h1).1 x e
  have a := nodup_len' (sorted_nodup' (acc_sorted fun x => x == m || hasB xs x)) (fun y hy => (hmem y).1 hy)
  have b := nodup_len' (List.nodup_cons.2 ⟨hasB_no.1 h3, sorted_nodup' (vv_mem h1).2⟩) (fun y hy => (hmem y).2 hy)
  have e : (accL fun x => x == m || hasB xs x) = joinL xs m := rfl
  rw [e] at a
  simp at a b
  omega
theorem alone_half (q : Int) (xs : List Int) (k : Nat) (hk : 2 * k ≤ xs.length) : majB q xs (xs.take k) = false := by
  have h : decide (xs.length < 2 * (xs.take k).length) = false := by rw [List.length_take]; simp; omega
  unfold majB
  rw [h, Bool.and_false, Bool.false_and]
theorem alone_none (q : Int) (xs : List Int) : majB q xs [] = false := by simp [majB]
theorem alone_all {q : Int} {xs : List Int} (hv : vvB q xs = true) : majB q xs xs = true := by
  have hp := vv_pos hv
  rw [maj_sub hv (List.Sublist.refl _)]
  simp; omega
theorem alone_left {q q' : Int} {xs : List Int} {x : Int} (hl : xs.length = 1) (hx : xs[0]? = some x) (b : Bool) : gB b q' (leaveL xs x) = false := by
  have e : leaveL xs x = [] := by
    unfold leaveL
    rw [List.eq_nil_iff_forall_not_mem]
    intro y hy
    have h := (mem_acc.1 hy).2
    simp only [Bool.and_eq_true, bne_iff_ne, hasB_iff] at h
    obtain ⟨a, rfl⟩ : ∃ a, xs = [a] := by
      rcases xs with _ | ⟨a, _ | ⟨b, r⟩⟩
      · simp at hl
      · exact ⟨a, rfl⟩
      · simp at hl
    simp at hx h
    exact h.1 (h.2.trans hx)
  simp [gB, e, vvB]
/-- Consecutive majorities. -/
theorem next_maj_a {q : Int} {xs : List Int} {k : Nat} (hv : vvB q xs = true) (hk : k ≤ xs.length) (h : xs.length < 2 * k) : majB q xs (xs.take k) = true := by
  rw [maj_sub hv (List.take_sublist _ _), List.length_take]
  simp; omega
theorem next_maj_b {q : Int} {xs : List Int} {k : Nat} (hv : vvB q xs = true) (h : xs.length < 2 * (xs.length - k)) : majB q xs (xs.drop k) = true := by
  rw [maj_sub hv (List.drop_sublist _ _), List.length_drop]
  simp; omega
theorem next_meet {q : Int} {xs : List Int} {m : Int} {k j : Nat} (hok : joinOk q xs m = true) (hv : vvB (q + 1) (joinL xs m) = true) (hk : k ≤ xs.length) (h : (joinL xs m).length < k + ((joinL xs m).length - j)) (hno : ∀ y ∈ xs.take k, hasB ((joinL xs m).drop j) y = false) : False := by
  have a1 : (xs.take k).Nodup := sorted_nodup' (List.Pairwise.sublist (List.take_sublist _ _) (vv_mem (join_ok hok).1).2)
  have a2 : ((joinL xs m).drop j).Nodup := sorted_nodup' (List.Pairwise.sublist (List.drop_sublist _ _) (vv_mem hv).2)
  have := nodup_len' (ys := xs.take k ++ (joinL xs m).drop j) (xs := joinL xs m) (List.nodup_append.2 ⟨a1, a2, fun a ha b hb e => by subst e; exact hasB_no.1 (hno a ha) hb⟩)
    (fun y hy => by
      rcases List.mem_append.1 hy with e | e
      · have hy' := List.mem_of_mem_take e
        have hr := (vv_mem (join_ok hok).1).1 y hy'
        exact mem_acc.2 ⟨hr, by simp [hasB_iff.2 hy']⟩
      · exact List.mem_of_mem_drop e)
  rw [List.length_append, List.length_take, List.length_drop] at this
  omega
theorem merge_has {xs ys : List Int} {x : Int} (h0 : 0 ≤ x) (h7 : x ≤ 7) : hasB (mergeL xs ys) x = (hasB xs x || hasB ys x) := by
  unfold mergeL
  exact has_acc (p := fun x => hasB xs x || hasB ys x) h0 h7
theorem both_comm {xs ys : List Int} (h : bothB xs ys = false) : bothB ys xs = false := by
  unfold bothB at *
  rw [List.any_eq_false] at *
  intro y hy hx
  exact h y (hasB_iff.1 hx) (hasB_iff.2 hy)
/-- The order of two views that are merged does not matter. -/
theorem merge_swap {q p : Int} {xs ys : List Int} (h : gB (mergeOk q xs p ys) (max q p + 1) (mergeL xs ys) = true) :
    gB (mergeOk p ys q xs) (max p q + 1) (mergeL ys xs) = true ∧ gQ (mergeOk p ys q xs) (max p q + 1) (mergeL ys xs) = max q p + 1 ∧ gX (mergeOk p ys q xs) (max p q + 1) (mergeL ys xs) = mergeL xs ys := by
  obtain ⟨hok, hv, _, _⟩ := g_true h
  obtain ⟨h1, h2, h3⟩ := merge_ok hok
  have hL : mergeL ys xs = mergeL xs ys := acc_congr fun x _ _ => by simp only [Bool.or_comm]
  have hm : max p q = max q p := by omega
  have hok' : mergeOk p ys q xs = true := by simp [mergeOk, h1, h2, both_comm h3]
  rw [hL, hm]
  exact g_mk hok' hv
end Go.Proofs.YtmjacdcefaohcaaDoor
