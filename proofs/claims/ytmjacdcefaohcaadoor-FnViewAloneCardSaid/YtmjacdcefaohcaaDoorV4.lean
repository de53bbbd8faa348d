/-
  Contracts of ViewMajority, the program's and the reference's.
-/
import Derived.Test.YtmjacdcefaohcaaDoorV1
namespace Go.Proofs.YtmjacdcefaohcaaDoor
open Go.RowKit
set_option linter.unusedVariables false

/-- Some are a majority of a view. -/
def allIn (xs ys : List Int) : Bool := ys.all fun y => hasB xs y
def majB (q : Int) (xs ys : List Int) : Bool := vvB q xs && ascB ys && decide (xs.length < 2 * ys.length) && allIn xs ys
theorem allIn_no {xs ys : List Int} {k : Nat} {y : Int} (h : ys[k]? = some y) (hy : hasB xs y = false) : allIn xs ys = false := by
  unfold allIn
  rw [List.all_eq_false]
  exact ⟨y, List.mem_of_getElem? h, by simp [hy]⟩
theorem allIn_snoc {xs ys zs : List Int} {y : Int} (h : zs = ys ++ [y]) (hy : hasB xs y = true) (ha : allIn xs ys = true) : allIn xs zs = true := by
  subst h
  unfold allIn at *
  simp [ha, hy]
theorem maj_spec {q : Int} {xs ys : List Int} (h : allIn xs ys = true) : (vvB q xs && memB ys && decide (xs.length < 2 * ys.length)) = majB q xs ys := by
  cases hv : vvB q xs with
  | false => simp [majB, hv]
  | true =>
    have hin : inR ys 0 7 = true := by
      rw [inR_iff]
      intro y hy
      simp only [allIn, List.all_eq_true] at h
      exact (vv_mem hv).1 y (hasB_iff.1 (h y hy))
    simp [majB, hv, memB, hin, h]
theorem maj_no {q : Int} {xs ys : List Int} (h : allIn xs ys = false) : majB q xs ys = false := by simp [majB, h]

theorem maj_true {q : Int} {xs ys : List Int} (h : majB q xs ys = true) : vvB q xs = true ∧ ys.Pairwise (· < ·) ∧ xs.length < 2 * ys.length ∧ ∀ y ∈ ys, y ∈ xs := by
  simp only [majB, Bool.and_eq_true, decide_eq_true_eq] at h
  refine ⟨h.1.1.1, pairwise_of_asc h.1.1.2, h.1.2, fun y hy => ?_⟩
  have := h.2
  simp only [allIn, List.all_eq_true] at this
  exact hasB_iff.1 (this y hy)
/-- A part of a view's members, in their order. -/
theorem maj_sub {q : Int} {xs ys : List Int} (hv : vvB q xs = true) (h : ys.Sublist xs) : majB q xs ys = decide (xs.length < 2 * ys.length) := by
  have h1 := asc_of_pairwise (List.Pairwise.sublist h (vv_mem hv).2)
  have h2 : allIn xs ys = true := by
    simp only [allIn, List.all_eq_true]
    exact fun y hy => hasB_iff.2 (h.subset hy)
  simp [majB, hv, h1, h2]
theorem nodup_len : ∀ {ys xs : List Int}, ys.Nodup → (∀ y ∈ ys, y ∈ xs) → ys.length ≤ xs.length
  | [], _, _, _ => by simp
  | y :: ys, xs, hn, h => by
    rw [List.nodup_cons] at hn
    have hy := h y (by simp)
    have := nodup_len (ys := ys) (xs := xs.erase y) hn.2 fun z hz => (List.mem_erase_of_ne (fun e => by subst e; exact hn.1 hz)).2 (h z (by simp [hz]))
    rw [List.length_erase_of_mem hy] at this
    have := List.length_pos_of_mem hy
    simp; omega
theorem sorted_nodup {xs : List Int} (h : xs.Pairwise (· < ·)) : xs.Nodup := h.imp fun hab e => by omega
/-- Two majorities of one view meet. -/
theorem maj_meet {q p : Int} {xs ys zs : List Int} (h1 : majB q xs ys = true) (h2 : majB p xs zs = true) (h : ∀ y ∈ ys, hasB zs y = false) : False := by
  obtain ⟨_, a1, a2, a3⟩ := maj_true h1
  obtain ⟨_, b1, b2, b3⟩ := maj_true h2
  have := nodup_len (ys := ys ++ zs) (xs := xs) (List.nodup_append.2 ⟨sorted_nodup a1, sorted_nodup b1, fun a ha b hb e => by subst e; exact hasB_no.1 (h a ha) hb⟩)
    (fun y hy => by rcases List.mem_append.1 hy with e | e; exact a3 y e; exact b3 y e)
  simp at this
  omega
theorem sub_yes {ys xs zs : List Int} {x : Int} (h : ys.Sublist xs) (e : zs = xs ++ [x]) : (ys ++ [x]).Sublist zs := by subst e; exact List.Sublist.append h (List.Sublist.refl _)
theorem sub_no {ys xs zs : List Int} {x : Int} (h : ys.Sublist xs) (e : zs = xs ++ [x]) : ys.Sublist zs := by subst e; exact h.trans (List.sublist_append_left _ _)
theorem none_snoc {ys zs us : List Int} {y : Int} (e : us = ys ++ [y]) (h : ∀ y ∈ ys, hasB zs y = false) (hy : hasB zs y = false) : ∀ y ∈ us, hasB zs y = false := by
  subst e
  intro u hu
  rcases List.mem_append.1 hu with h' | h'
  · exact h u h'
  · rw [List.mem_singleton.1 h']; exact hy

set_option maxHeartbeats 1000000 in
theorem implMajority_any (A : Option Addr) (n c : Nat) (B : Option Addr) (m d : Nat) (q : Int) (xs ys : List Int) (w : World) (hx : Ints w w.heap.size A n xs) (hy : Ints w w.heap.size B m ys) (hn : n ≤ 1048576) (hm : m ≤ 1048576) :
    Calls Tryd.prog 19 #[.agg #[.int .i64 q, .slice A n c], .slice B m d] w (RetV (.bool (majB q xs ys)) w) := by
  have HL := Lib.hid hx.len
  have HM := Lib.hid hy.len
  have b1 := Blk.new w 25 #[.int .i64 q, .slice A n c]
  have hX := (hx.alloc (Nat.le_refl _) (.cells #[.int .i64 q, .slice A n c] 25))
  have hY := (hy.alloc (Nat.le_refl _) (.cells #[.int .i64 q, .slice A n c] 25))
  cases h1 : vvB q xs
  · go_enter Tryd.func19, Tryd.ntmps19
    go_wp2_with fail
    refine (implViewValid_any _ _ _ q xs _ (hX.more (by first | omega | (simp; done) | (simp; omega))) hn).mono ?_
    rintro e w1 ⟨rfl, hb1⟩
    go_wp2
    go_ret
    exact ⟨ret_bool (by simp [majB, h1]), (by repeat' (first | with_reducible exact Below.refl _ _ | with_reducible assumption | with_reducible refine Below.setCell ?_ (by first | omega | (simp; done) | (simp; omega)) _ | with_reducible refine Below.alloc ?_ (by first | omega | (simp; done) | (simp; omega)) _ | with_reducible refine below_drewN ?_ _ | with_reducible refine Below.drew ?_ | (with_reducible refine Below.trans ?_ (Below.mono (by with_reducible assumption) (by first | omega | (simp; done) | (simp; omega))))))⟩
  cases h2 : ascB ys
  · go_enter Tryd.func19, Tryd.ntmps19
    go_wp2_with fail
    refine (implViewValid_any _ _ _ q xs _ (hX.more (by first | omega | (simp; done) | (simp; omega))) hn).mono ?_
    rintro e w1 ⟨rfl, hb1⟩
    go_wp2_with fail
    refine (ascending_any _ _ _ w.heap.size ys _ (hY.below (hb1.mono (by first | omega | (simp; done) | (simp; omega)))) hm).mono ?_
    rintro e w2 ⟨rfl, d2, rfl⟩
    go_wp2
    go_ret
    exact ⟨ret_bool (by simp [majB, h2]), (by repeat' (first | with_reducible exact Below.refl _ _ | with_reducible assumption | with_reducible refine Below.setCell ?_ (by first | omega | (simp; done) | (simp; omega)) _ | with_reducible refine Below.alloc ?_ (by first | omega | (simp; done) | (simp; omega)) _ | with_reducible refine below_drewN ?_ _ | with_reducible refine Below.drew ?_ | (with_reducible refine Below.trans ?_ (Below.mono (by with_reducible assumption) (by first | omega | (simp; done) | (simp; omega))))))⟩
  by_cases h3 : 2 * m ≤ n
  · have h3i : (2 : Int) * (m : Int) ≤ (n : Int) := by omega
    go_enter Tryd.func19, Tryd.ntmps19
    go_wp2_with fail
    refine (implViewValid_any _ _ _ q xs _ (hX.more (by first | omega | (simp; done) | (simp; omega))) hn).mono ?_
    rintro e w1 ⟨rfl, hb1⟩
    have f1 := (b1.below hb1 (by first | omega | (simp; done) | (simp; omega))).two
    have z1 : w.heap.size < w1.heap.size := by have := hb1.size; simp at this; omega
    go_wp2_with fail
    refine (ascending_any _ _ _ w.heap.size ys _ (hY.below (hb1.mono (by first | omega | (simp; done) | (simp; omega)))) hm).mono ?_
    rintro e w2 ⟨rfl, d2, rfl⟩
    go_wp2
    go_ret
    exact ⟨ret_bool (by simp [majB, HL.out, HM.out]; omega), (by repeat' (first | with_reducible exact Below.refl _ _ | with_reducible assumption | with_reducible refine Below.setCell ?_ (by first | omega | (simp; done) | (simp; omega)) _ | with_reducible refine Below.alloc ?_ (by first | omega | (simp; done) | (simp; omega)) _ | with_reducible refine below_drewN ?_ _ | with_reducible refine Below.drew ?_ | (with_reducible refine Below.trans ?_ (Below.mono (by with_reducible assumption) (by first | omega | (simp; done) | (simp; omega))))))⟩
  have h3i : (n : Int) < (2 : Int) * (m : Int) := by omega
  go_enter Tryd.func19, Tryd.ntmps19
  go_wp2_with fail
  refine (implViewValid_any _ _ _ q xs _ (hX.more (by first | omega | (simp; done) | (simp; omega))) hn).mono ?_
  rintro e w1 ⟨rfl, hb1⟩
  have f1 := (b1.below hb1 (by first | omega | (simp; done) | (simp; omega))).two
  have z1 : w.heap.size < w1.heap.size := by have := hb1.size; simp at this; omega
  have HB := Lib.hid (show Below w.heap.size w w1 from (by repeat' (first | with_reducible exact Below.refl _ _ | with_reducible assumption | with_reducible refine Below.setCell ?_ (by first | omega | (simp; done) | (simp; omega)) _ | with_reducible refine Below.alloc ?_ (by first | omega | (simp; done) | (simp; omega)) _ | with_reducible refine below_drewN ?_ _ | with_reducible refine Below.drew ?_ | (with_reducible refine Below.trans ?_ (Below.mono (by with_reducible assumption) (by first | omega | (simp; done) | (simp; omega)))))))
  go_wp2_with fail
  refine (ascending_any _ _ _ w.heap.size ys _ (hY.below (hb1.mono (by first | omega | (simp; done) | (simp; omega)))) hm).mono ?_
  rintro e w2 ⟨rfl, d2, rfl⟩
  have X1 : Ints (w1.drewN d2) w.heap.size A n xs := (hx.below HB.out).drewN _
  have Y1 : Ints (w1.drewN d2) w.heap.size B m ys := (hy.below HB.out).drewN _
  clear hX hY hb1
  go_wp2
  go_loop [26] (fun i => ∃ k : Nat, k ≤ m ∧ i = .int .i64 k ∧ allIn xs (ys.take k) = true) (fun i => m - (intOf i).toNat)
  case atStart => exact ⟨0, Nat.zero_le _, rfl, by simp [allIn]⟩
  case round =>
    obtain ⟨k, hk, rfl, hall⟩ := hrel
    have HA := Lib.hid hall
    clear hall
    by_cases hlt : k < m
    · obtain ⟨ad, y, rfl, hb, hc, hy1, hs⟩ := Y1.elem hlt
      cases hd : hasB xs y
      all_goals
        go_wp2_with (go_at_call 46; refine (contains_any _ _ _ w.heap.size xs _ _ X1 hn).mono ?_; rintro e w3 ⟨rfl, rfl⟩)
        first
          | (go_ret; exact ⟨ret_bool (maj_no (allIn_no hy1.out hd)).symm, below_drewN HB.out _⟩)
          | (go_round
             case rel => exact ⟨k + 1, by omega, by go_num, allIn_snoc hs.out hd HA.out⟩
             case measure => simp [intOf]; omega)
    · have : k = m := by omega
      subst this
      go_wp2
      go_ret
      exact ⟨ret_bool (by have h := HA.out; rw [List.take_of_length_le (by rw [HM.out]; exact Nat.le_refl _)] at h; simp [majB, h1, h2, h, HL.out, HM.out]; omega), below_drewN HB.out _⟩
end Go.Proofs.YtmjacdcefaohcaaDoor
