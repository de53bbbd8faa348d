/-
  Giving, step by step. No program in sight.
-/
import Derived.Test.YtehgipbedlamaaaCF
namespace Go.Proofs.Ytehgipbedlamaaa
set_option linter.unusedVariables false

/-- The credits behind the k-th group that is given. -/
def gK (c : CX) (s : Int) (k : Nat) : CX := ⟨gFree ((hasS c s).take k) (H0 c s) c.free, gHolds ((hasS c s).take k) (H0 c s)⟩
theorem gK_flen (c : CX) (s : Int) (k : Nat) : (gK c s k).free.length = 5 := gFree_len _ _ _
theorem gK_hlen (c : CX) (s : Int) (k : Nat) : (gK c s k).holds.length = c.holds.length := by simp [gK, gHolds_len, H0_len]
theorem gK_zero {c : CX} (h : Cv c) (s : Int) : gK c s 0 = give0 c s := by
  unfold gK give0
  rw [List.take_zero, gFree_nil h.f, gHolds_nil]; rfl
theorem gK_end {c : CX} {s : Int} (h : Gv c s) : gK c s (hasS c s).length = giveY c s := by
  rw [give_form h]; unfold gK; rw [List.take_length]
theorem gK_new {c : CX} (h : Cv c) {s : Int} (hs : s.toNat < c.holds.length) {k : Nat} {g : Int} (hk : (hasS c s)[k]? = some g) : (0 ≤ g ∧ g ≤ 4) ∧ g ∉ (hasS c s).take k ∧ (hasS c s).take (k + 1) = (hasS c s).take k ++ [g] := by
  have hS := h.at_ hs
  have hl := (List.getElem?_eq_some_iff.1 hk).1
  have e : (hasS c s)[k] = g := (List.getElem?_eq_some_iff.1 hk).2
  have ht : (hasS c s).take (k + 1) = (hasS c s).take k ++ [g] := by rw [List.take_succ_eq_append_getElem hl, e]
  refine ⟨hS.m g (List.mem_of_getElem? hk), fun hm => ?_, ht⟩
  have hp : ((hasS c s).take (k + 1)).Pairwise (· < ·) := hS.p.take
  rw [ht, List.pairwise_append] at hp
  have := hp.2.2 g hm g (by simp)
  omega
theorem gK_succ {c : CX} (h : Cv c) {s : Int} (hs : s.toNat < c.holds.length) {k : Nat} {g : Int} (hk : (hasS c s)[k]? = some g) : giveStep (gK c s k) g = gK c s (k + 1) := by
  obtain ⟨⟨h0, h4⟩, hn, ht⟩ := gK_new h hs hk
  unfold gK
  rw [ht]
  exact give_step h0 h4 hn
theorem gK_cur {c : CX} (h : Cv c) {s : Int} (hs : s.toNat < c.holds.length) {k : Nat} {g : Int} (hk : (hasS c s)[k]? = some g) : (gK c s k).free.getD g.toNat 0 = c.free.getD g.toNat 0 := by
  obtain ⟨⟨h0, h4⟩, hn, ht⟩ := gK_new h hs hk
  show (gFree _ _ _).getD g.toNat 0 = _
  rw [gFree_at _ _ _ (by omega), show ((g.toNat : Nat) : Int) = g by omega, hasB_no.2 hn]
  simp
theorem gK_first {c : CX} (h : Cv c) {s : Int} (hs : s.toNat < c.holds.length) {k : Nat} {g : Int} (hk : (hasS c s)[k]? = some g) {m : Nat} (hm : firstW (gK c s k).holds g = some m) : c.free.getD g.toNat 0 = 0 := by
  obtain ⟨⟨h0, h4⟩, hn, ht⟩ := gK_new h hs hk
  obtain ⟨h1, h2, _⟩ := firstW_some hm
  rw [gK_hlen] at h1
  have e : hAt (gK c s k).holds m = gHold ((hasS c s).take k) (H0 c s) m := gHolds_at _ _ (by rw [H0_len]; exact h1)
  rw [e] at h2
  unfold gHold at h2
  split at h2
  · simp only at h2; omega
  · unfold H0 at h2
    rw [hAt_set hs] at h2
    split at h2
    · simp only [hz] at h2; omega
    · have := (h.at_ h1).w
      rcases this with e2 | ⟨_, _, e2, _⟩
      · omega
      · rw [h2] at e2
        have := (h.fr g.toNat (by omega)).1
        omega
theorem giveStep_none {c : CX} {g : Int} (h : firstW c.holds g = none) : giveStep c g = ⟨c.free.set g.toNat (c.free.getD g.toNat 0 + 1), c.holds⟩ := by simp [giveStep, h]
theorem giveStep_some {c : CX} {g : Int} {m : Nat} (h : firstW c.holds g = some m) : giveStep c g = ⟨c.free, c.holds.set m ⟨wiL (hAt c.holds m).has g, -1⟩⟩ := by simp [giveStep, h]
theorem give_no {c : CX} {s : Int} (h : giveOk c s = false) : giveC c s = cNo ∧ giveB c s = false := by simp [giveC, giveB, h]
theorem give_stop {c : CX} {s : Int} (h : giveOk c s = true) (h2 : stopG c s = true) : giveC c s = c ∧ giveB c s = false := by simp [giveC, giveB, h, h2]
theorem give_go {c : CX} {s : Int} (h : giveOk c s = true) (h2 : stopG c s = false) : Gv c s ∧ giveC c s = giveY c s ∧ giveB c s = true := by
  have hb : giveB c s = true := by simp [giveB, h, h2]
  exact ⟨give_yes hb, (give_yes hb).e, hb⟩
end Go.Proofs.Ytehgipbedlamaaa
