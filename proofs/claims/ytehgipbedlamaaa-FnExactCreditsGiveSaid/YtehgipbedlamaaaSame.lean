/-
  Contracts of the laws' own functions on lists of ints: two lists are equal; a copy; marks.
-/
import Derived.Test.YtehgipbedlamaaaLists
import Derived.Deep.QuietTactic
import Derived.BigQuiet
import Derived.Deep.LoopGhost
namespace Go.Proofs.Ytehgipbedlamaaa
open Go.RowKit
set_option linter.unusedVariables false

/-- A call hands back a bool and leaves the world as it was, but for draws. -/
def RetB (b : Bool) (w : World) (e : Ending) (w' : World) : Prop := e = .returned (.bool b) ∧ ∃ d, w' = w.drewN d
theorem RetB.mk {a b : Bool} {w w' : World} (h : a = b) (hw : ∃ d, w' = w.drewN d) : RetB b w (.returned (.bool a)) w' := by subst h; exact ⟨rfl, hw⟩

theorem take_eq_snoc {xs ys : List Int} {k : Nat} {x : Int} (h : xs.take k = ys.take k) (h1 : xs.take (k + 1) = xs.take k ++ [x]) (h2 : ys.take (k + 1) = ys.take k ++ [x]) : xs.take (k + 1) = ys.take (k + 1) := by
  rw [h1, h2, h]
theorem ne_of_get {xs ys : List Int} {k : Nat} {x y : Int} (h1 : xs[k]? = some x) (h2 : ys[k]? = some y) (h : x ≠ y) : (xs == ys) = false := by
  rw [beq_eq_false_iff_ne]
  rintro rfl
  rw [h1] at h2
  exact h (by injection h2)
theorem eq_of_take {xs ys : List Int} {n : Nat} (h : xs.take n = ys.take n) (h1 : xs.length = n) (h2 : ys.length = n) : (xs == ys) = true := by
  rw [List.take_of_length_le (by omega), List.take_of_length_le (by omega)] at h
  rw [beq_iff_eq]
  exact h
theorem ne_of_len {xs ys : List Int} {n m : Nat} (h1 : xs.length = n) (h2 : ys.length = m) (h : n ≠ m) : (xs == ys) = false := by
  rw [beq_eq_false_iff_ne]
  rintro rfl
  omega

theorem sameInts_any (A A' : Option Addr) (n c m c' B : Nat) (xs ys : List Int) (w : World) (hx : Ints w B A n xs) (hy : Ints w B A' m ys) (hn : n ≤ 1048576) (hm : m ≤ 1048576) :
    Calls Try.prog 29 #[.slice A n c, .slice A' m c'] w (RetB (xs == ys) w) := by
  have hlx := Lib.hid hx.len
  have hly := Lib.hid hy.len
  by_cases hne : n = m
  · subst hne
    go_enter Try.func29, Try.ntmps29
    go_wp2
    go_loopw [5] (fun i wr => ∃ k : Nat, k ≤ n ∧ i = .int .i64 k ∧ xs.take k = ys.take k ∧ ∃ d, wr = w.drewN d) (fun i _ => n - (intOf i).toNat)
    case atStart => exact ⟨0, Nat.zero_le _, rfl, rfl, 0, rfl⟩
    case round =>
      obtain ⟨k, hk, rfl, hall, d, rfl⟩ := hrel
      have HA := Lib.hid hall
      clear hall
      by_cases hlt : k < n
      · obtain ⟨ad, x, rfl, hb, hc, hx1, hs⟩ := hx.elem hlt
        obtain ⟨ad', y, rfl, hb', hc', hy1, hs'⟩ := hy.elem hlt
        by_cases hxy : x = y
        · subst hxy
          have hd : (x != x) = false := by simp
          go_wp2
          go_quiet (fail)
          go_wp2
          go_roundw
          case rel => exact ⟨k + 1, by omega, by go_num, take_eq_snoc HA.out hs.out hs'.out, _, rfl⟩
          case measure => simp [intOf]; omega
        · have hd : (x != y) = true := by simp [hxy]
          have HXY := Lib.hid hxy
          clear hxy
          go_wp2
          go_quiet (fail)
          go_wp2
          go_ret
          exact RetB.mk (ne_of_get hx1.out hy1.out HXY.out).symm ⟨_, World.drewN_drewN _ _ _⟩
      · have : k = n := by omega
        subst this
        go_wp2
        go_ret
        exact RetB.mk (eq_of_take HA.out hlx.out hly.out).symm ⟨_, rfl⟩
  · have HN := Lib.hid hne
    have hd : ((n : Int) != (m : Int)) = true := by rw [bne_iff_ne]; omega
    clear hne
    go_enter Try.func29, Try.ntmps29
    go_wp2
    go_ret
    exact RetB.mk (ne_of_len hlx.out hly.out HN.out).symm ⟨0, rfl⟩
theorem eqIntS_any (A A' : Option Addr) (n c m c' B : Nat) (xs ys : List Int) (w : World) (hx : Ints w B A n xs) (hy : Ints w B A' m ys) (hn : n ≤ 1048576) (hm : m ≤ 1048576) :
    Calls Try.prog 51 #[.slice A n c, .slice A' m c'] w (RetB (xs == ys) w) := by
  have hlx := Lib.hid hx.len
  have hly := Lib.hid hy.len
  by_cases hne : n = m
  · subst hne
    go_enter Try.func51, Try.ntmps51
    go_wp2
    go_loopw [5] (fun i wr => ∃ k : Nat, k ≤ n ∧ i = .int .i64 k ∧ xs.take k = ys.take k ∧ ∃ d, wr = w.drewN d) (fun i _ => n - (intOf i).toNat)
    case atStart => exact ⟨0, Nat.zero_le _, rfl, rfl, 0, rfl⟩
    case round =>
      obtain ⟨k, hk, rfl, hall, d, rfl⟩ := hrel
      have HA := Lib.hid hall
      clear hall
      by_cases hlt : k < n
      · obtain ⟨ad, x, rfl, hb, hc, hx1, hs⟩ := hx.elem hlt
        obtain ⟨ad', y, rfl, hb', hc', hy1, hs'⟩ := hy.elem hlt
        by_cases hxy : x = y
        · subst hxy
          have hd : (x != x) = false := by simp
          go_wp2
          go_quiet (fail)
          go_wp2
          go_roundw
          case rel => exact ⟨k + 1, by omega, by go_num, take_eq_snoc HA.out hs.out hs'.out, _, rfl⟩
          case measure => simp [intOf]; omega
        · have hd : (x != y) = true := by simp [hxy]
          have HXY := Lib.hid hxy
          clear hxy
          go_wp2
          go_quiet (fail)
          go_wp2
          go_ret
          exact RetB.mk (ne_of_get hx1.out hy1.out HXY.out).symm ⟨_, World.drewN_drewN _ _ _⟩
      · have : k = n := by omega
        subst this
        go_wp2
        go_ret
        exact RetB.mk (eq_of_take HA.out hlx.out hly.out).symm ⟨_, rfl⟩
  · have HN := Lib.hid hne
    have hd : ((n : Int) != (m : Int)) = true := by rw [bne_iff_ne]; omega
    clear hne
    go_enter Try.func51, Try.ntmps51
    go_wp2
    go_ret
    exact RetB.mk (ne_of_len hlx.out hly.out HN.out).symm ⟨0, rfl⟩

/-- What a copy holds when k elements have been copied. -/
def part (xs : List Int) (k : Nat) : List Int := xs.take k ++ List.replicate (xs.length - k) 0
theorem part_zero (xs : List Int) : part xs 0 = List.replicate xs.length 0 := by simp [part]
theorem part_all (xs : List Int) (k : Nat) (h : xs.length ≤ k) : part xs k = xs := by
  unfold part
  rw [List.take_of_length_le h, Nat.sub_eq_zero_of_le h]; simp
theorem part_set (xs : List Int) (k : Nat) (x : Int) (h : k < xs.length) (hs : xs.take (k + 1) = xs.take k ++ [x]) : (part xs k).set k x = part xs (k + 1) := by
  unfold part
  have h1 : xs.length - k = (xs.length - (k + 1)) + 1 := by omega
  have h2 : (xs.take k).length = k := by rw [List.length_take]; omega
  rw [hs, h1, List.replicate_succ, List.set_append_right _ _ (by omega), h2, Nat.sub_self, List.set_cons_zero, List.append_assoc]
  rfl

theorem toIntS_any (A : Option Addr) (n c B : Nat) (xs : List Int) (w : World) (hr : Ints w B A n xs) (hB : B ≤ w.heap.size) (hn : n ≤ 1048576) :
    Calls Try.prog 49 #[.slice A n c] w (RetInts xs w) := by
  have hlx := Lib.hid hr.len
  go_enter Try.func49, Try.ntmps49
  go_wp2_with (at_make; refine mkn rfl _ _ rfl w.heap.size _ _ _ _ n rfl rfl rfl rfl (by omega) (Nat.le_refl _) ?_; intro w1 hown1 hg1)
  have hb1 : Below w.heap.size w w1 := (Below.refl _ _).grown hg1 (Nat.le_refl _) (by simp)
  go_loopw [4] (fun i wr => ∃ k : Nat, k ≤ n ∧ i = .int .i64 k ∧ Own wr w.heap.size (some ⟨w.heap.size, 0, none⟩) n n (part xs k) ∧ Below w.heap.size w wr) (fun i _ => n - (intOf i).toNat)
  case atStart => exact ⟨0, Nat.zero_le _, rfl, by rw [part_zero, hlx.out]; exact hown1, hb1⟩
  case round =>
    obtain ⟨k, hk, rfl, hown, hbw⟩ := hrel
    clear hown1 hg1 hb1
    by_cases hlt : k < n
    · obtain ⟨ad, x, rfl, hb, hc, hx1, hs⟩ := hr.elem hlt
      have hc1 : wr.cell? (ad.add k) = some (.int .i64 x) := by rw [hbw.cell (by rw [block_of_add]; omega)]; exact hc
      obtain ⟨hc2, hf2⟩ := hown.cellAt hlt
      go_wp2
      go_roundw
      case rel =>
        refine ⟨k + 1, by omega, by go_num, ?_, hbw.setCell (Nat.le_refl _) _⟩
        rw [← part_set xs k x (by rw [hlx.out]; exact hlt) hs.out]
        exact hown.stored k x
      case measure => simp [intOf]; omega
    · have : k = n := by omega
      subst this
      go_wp2
      go_ret
      exact ⟨_, _, _, rfl, by rw [part_all xs k (by rw [hlx.out]; exact Nat.le_refl _)] at hown; exact hown, hbw⟩

theorem szIntS_yes (A : Option Addr) (n c : Nat) (left : Int) (w : World) (h1 : left ≤ 1048576) (h : (n : Int) ≤ left) :
    Calls Try.prog 47 #[.slice A n c, .int .i64 left] w fun e w' => e = .returned (.int .i64 (left - n)) ∧ w = w' := by
  go_enter Try.func47, Try.ntmps47
  go_wp2
  go_ret
  exact ⟨rfl, rfl⟩
theorem szIntS_no (A : Option Addr) (n c : Nat) (left : Int) (w : World) (h0 : 0 ≤ left) (h1 : left ≤ 1048576) (hn : n ≤ 9223372036854775807) (h : left < (n : Int)) :
    Calls Try.prog 47 #[.slice A n c, .int .i64 left] w fun e w' => e = .returned (.int .i64 (-1)) ∧ w = w' := by
  go_enter Try.func47, Try.ntmps47
  go_wp2
  go_ret
  exact ⟨rfl, rfl⟩
/-- The numbers from k on, n of them. -/
def marks (k : Int) (n : Nat) : List Int := (List.range n).map fun (i : Nat) => k + (i : Int)
theorem marks_length (k : Int) (n : Nat) : (marks k n).length = n := by simp [marks]
theorem marks_get (k : Int) (n j : Nat) (h : j < n) : (marks k n).getD j 0 = k + (j : Int) := by simp [marks, h]
theorem marks_snoc (k : Int) (j : Nat) : marks k (j + 1) = marks k j ++ [k + (j : Int)] := by simp [marks, List.range_succ]
theorem heldIntS_any (A : Option Addr) (n c B : Nat) (k : Int) (w : World) (hr : Ints w B A n (marks k n)) (h0 : 0 ≤ k) (hk : k ≤ 8388608) (hn : n ≤ 1048576) :
    Calls Try.prog 55 #[.slice A n c, .int .i64 k] w fun e w' => e = .returned (.int .i64 (k + n)) ∧ w = w' := by
  go_enter Try.func55, Try.ntmps55
  go_wp2
  go_loop [1, 5] (fun q i => ∃ j : Nat, j ≤ n ∧ i = .int .i64 j ∧ q = .int .i64 (k + j)) (fun _ i => n - (intOf i).toNat)
  case atStart => exact ⟨0, Nat.zero_le _, rfl, by simp⟩
  case round =>
    obtain ⟨j, hj, rfl, rfl⟩ := hrel
    by_cases hlt : j < n
    · obtain ⟨ad, rfl, hb, hc⟩ := hr.at_ hlt
      rw [marks_get k n j hlt] at hc
      go_wp2
      go_round
      case rel => exact ⟨j + 1, by omega, by go_num, by go_num⟩
      case measure => simp [intOf]; omega
    · have : j = n := by omega
      subst this
      go_wp2
      go_ret
      exact ⟨rfl, rfl⟩
/-- What a row holds when its first j elements have been marked. -/
def marked (xs : List Int) (k : Int) (j : Nat) : List Int := marks k j ++ xs.drop j
theorem marked_zero (xs : List Int) (k : Int) : marked xs k 0 = xs := by simp [marked, marks]
theorem marked_all (xs : List Int) (k : Int) (n : Nat) (h : xs.length ≤ n) : marked xs k n = marks k n := by simp [marked, List.drop_eq_nil_of_le h]
theorem marked_set (xs : List Int) (k : Int) (j : Nat) (h : j < xs.length) : (marked xs k j).set j (k + (j : Int)) = marked xs k (j + 1) := by
  unfold marked
  have hl := marks_length k j
  rw [List.drop_eq_getElem_cons h, List.set_append_right _ _ (by omega), hl, Nat.sub_self, List.set_cons_zero, marks_snoc, List.append_assoc]
  rfl
theorem grown_set {w wr : World} {g : Nat} (h : w.grownBy wr (some g)) {p : Addr} (hp : p.block = g) (u : Value) : w.grownBy (wr.setCell p u) (some g) :=
  ⟨h.os, h.tape, h.output, by simpa [World.setCell] using h.size, fun i hi hne => (Below.heap_setCell wr p u i (by rintro rfl; exact hne (by rw [hp]))).trans (h.block i hi hne)⟩
theorem markIntS_any (A : Option Addr) (n c base : Nat) (xs : List Int) (k : Int) (w : World) (hr : Own w base A n c xs) (h0 : 0 ≤ k) (hk : k ≤ 8388608) (hn : n ≤ 1048576) :
    Calls Try.prog 53 #[.slice A n c, .int .i64 k] w fun e w' => e = .returned (.int .i64 (k + n)) ∧ Own w' base A n c (marks k n) ∧ w.grownBy w' (blk A) := by
  have hlx := Lib.hid hr.len
  go_enter Try.func53, Try.ntmps53
  go_wp2
  go_loopw [1, 5] (fun q i wr => ∃ j : Nat, j ≤ n ∧ i = .int .i64 j ∧ q = .int .i64 (k + j) ∧ Own wr base A n c (marked xs k j) ∧ w.grownBy wr (blk A)) (fun _ i _ => n - (intOf i).toNat)
  case atStart => exact ⟨0, Nat.zero_le _, rfl, by simp, by rw [marked_zero]; exact hr, World.grownBy.refl w _⟩
  case round =>
    obtain ⟨j, hj, rfl, rfl, hown, hg⟩ := hrel
    by_cases hlt : j < n
    · obtain ⟨g, rfl, hb, hgl⟩ := hown.form (by omega)
      obtain ⟨hc2, hf2⟩ := hown.cellAt hlt
      go_wp2
      go_roundw
      case rel =>
        refine ⟨j + 1, by omega, by go_num, by go_num, ?_, grown_set (p := ⟨g, j, none⟩) hg rfl _⟩
        rw [← marked_set xs k j (by rw [hlx.out]; exact hlt)]
        exact hown.stored j _
      case measure => simp [intOf]; omega
    · have : j = n := by omega
      subst this
      go_wp2
      go_ret
      exact ⟨rfl, by rw [marked_all xs k j (by rw [hlx.out]; exact Nat.le_refl _)] at hown; exact hown, hg⟩
end Go.Proofs.Ytehgipbedlamaaa
