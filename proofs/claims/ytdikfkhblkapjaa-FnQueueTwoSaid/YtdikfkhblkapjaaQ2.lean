/-
  Contracts of the queue's copies and comparisons.
-/
import Derived.Test.YtdikfkhblkapjaaQ1
import Derived.Test.YtdikfkhblkapjaaSame
namespace Go.Proofs.Ytdikfkhblkapjaa
open Go.RowKit
set_option linter.unusedVariables false

/-- A call hands back a queue in memory of its own, in two blocks, and changes nothing that was there. -/
def RetQ (xs ys : List Int) (w : World) (e : Ending) (w' : World) : Prop :=
  ∃ A n c A' n' c', e = .returned (.agg #[.slice A n c, .slice A' n' c']) ∧ Own w' w.heap.size A n c xs ∧ Own w' w.heap.size A' n' c' ys ∧ Apart A A' ∧ Below w.heap.size w w'

theorem toQueue_any (A A' : Option Addr) (n c n' c' : Nat) (xs ys : List Int) (w : World) (hx : Ints w w.heap.size A n xs) (hy : Ints w w.heap.size A' n' ys) (hn : n ≤ 1048576) (hn' : n' ≤ 1048576) :
    Calls Try.prog 25 #[.agg #[.slice A n c, .slice A' n' c']] w (RetQ xs ys w) := by
  have b1 : Blk (w.alloc (.cells #[.slice A n c, .slice A' n' c'] 31)) w.heap.size 31 #[.slice A n c, .slice A' n' c'] := Blk.new _ _ _
  have b2 := Blk.new (w.alloc (.cells #[.slice A n c, .slice A' n' c'] 31)) 34 #[.slice none 0 0, .slice none 0 0]
  have b3 := Blk.new ((w.alloc (.cells #[.slice A n c, .slice A' n' c'] 31)).alloc (.cells #[.slice none 0 0, .slice none 0 0] 34)) 34 #[.slice none 0 0, .slice none 0 0]
  replace b1 := (b1.alloc (.cells #[.slice none 0 0, .slice none 0 0] 34)).alloc (.cells #[.slice none 0 0, .slice none 0 0] 34)
  replace b2 := b2.alloc (.cells #[.slice none 0 0, .slice none 0 0] 34)
  simp only [World.size_alloc] at b2 b3
  go_enter Try.func25, Try.ntmps25
  go_wp2_with fail
  refine (toIntS_any _ _ _ w.heap.size xs _ (((hx.alloc (Nat.le_refl _) _).alloc (by simp) _).alloc (by first | omega | (simp; done) | (simp; omega)) _) (by first | omega | (simp; done) | (simp; omega)) hn).mono ?_
  rintro e w1 ⟨A1, n1, c1, rfl, hown1, hb1⟩
  have hz1 := hb1.size
  simp at hz1
  replace b1 := b1.below hb1 (by first | omega | (simp; done) | (simp; omega))
  replace b2 := b2.below hb1 (by first | omega | (simp; done) | (simp; omega))
  replace b3 := b3.below hb1 (by first | omega | (simp; done) | (simp; omega))
  have f1 := b1.two
  have f3 := b3.two
  go_wp2_with fail
  have hy1 : Ints (w1.setCell ⟨w.heap.size + 1 + 1, 0, none⟩ (.slice A1 n1 c1)) w.heap.size A' n' ys :=
    (((((hy.alloc (Nat.le_refl _) _).alloc (by simp) _).alloc (by first | omega | (simp; done) | (simp; omega)) _).below (hb1.mono (by first | omega | (simp; done) | (simp; omega)))).setCell (by first | omega | (simp; done) | (simp; omega)) _)
  refine (toIntS_any _ _ _ w.heap.size ys _ hy1 (by first | omega | (simp; done) | (simp; omega)) hn').mono ?_
  rintro e w2 ⟨A2, n2, c2, rfl, hown2, hb2⟩
  have hz2 := hb2.size
  simp at hz2
  clear f1 f3
  replace b2 := (b2.far (p := ⟨w.heap.size + 1 + 1, 0, none⟩) (by simp) (.slice A1 n1 c1)).below hb2 (by first | omega | (simp; done) | (simp; omega))
  replace b3 := (b3.set_ 0 (.slice A1 n1 c1)).below hb2 (by first | omega | (simp; done) | (simp; omega))
  have f2 := b2.two
  have f3 := b3.two
  go_wp2
  exact bodyPost_ret (v := .agg #[.slice A1 n1 c1, .slice A2 n2 c2]) (by simp [results, Try.results25, go_sem, f2]) rfl ⟨A1, n1, c1, A2, n2, c2, rfl, (((((hown1.setBelow (by first | omega | (simp; done) | (simp; omega)) _).below hb2).setBelow (by first | omega | (simp; done) | (simp; omega)) _).setBelow (by first | omega | (simp; done) | (simp; omega)) _).setBelow (by first | omega | (simp; done) | (simp; omega)) _).mono (by first | omega | (simp; done) | (simp; omega)), (((hown2.setBelow (by first | omega | (simp; done) | (simp; omega)) _).setBelow (by first | omega | (simp; done) | (simp; omega)) _).setBelow (by first | omega | (simp; done) | (simp; omega)) _).mono (by first | omega | (simp; done) | (simp; omega)), Apart.of_lt (hown1.setBelow (by first | omega | (simp; done) | (simp; omega)) _) hown2, (by repeat' (first | with_reducible exact Below.refl _ _ | with_reducible assumption | with_reducible refine Below.setCell ?_ (by first | omega | (simp; done) | (simp; omega)) _ | with_reducible refine Below.alloc ?_ (by first | omega | (simp; done) | (simp; omega)) _ | with_reducible refine below_drewN ?_ _ | with_reducible refine Below.drew ?_ | (with_reducible refine Below.trans ?_ (Below.mono (by with_reducible assumption) (by first | omega | (simp; done) | (simp; omega))))))⟩

theorem eqQueue_any (A A' : Option Addr) (n c n' c' : Nat) (xs ys : List Int) (B B' : Option Addr) (m d m' d' : Nat) (us vs : List Int) (w : World)
    (hx : Ints w w.heap.size A n xs) (hy : Ints w w.heap.size A' n' ys) (hu : Ints w w.heap.size B m us) (hv : Ints w w.heap.size B' m' vs) (hn : n ≤ 1048576) (hn' : n' ≤ 1048576) (hm : m ≤ 1048576) (hm' : m' ≤ 1048576) :
    Calls Try.prog 27 #[.agg #[.slice A n c, .slice A' n' c'], .agg #[.slice B m d, .slice B' m' d']] w fun e w' => e = .returned (.bool ((xs == us) && (ys == vs))) ∧ Below w.heap.size w w' := by
  have hX : Ints ((w.alloc (.cells #[.slice A n c, .slice A' n' c'] 34)).alloc (.cells #[.slice B m d, .slice B' m' d'] 34)) w.heap.size A n xs := (hx.alloc (Nat.le_refl _) _).alloc (by first | omega | (simp; done) | (simp; omega)) _
  have hY : Ints ((w.alloc (.cells #[.slice A n c, .slice A' n' c'] 34)).alloc (.cells #[.slice B m d, .slice B' m' d'] 34)) w.heap.size A' n' ys := (hy.alloc (Nat.le_refl _) _).alloc (by first | omega | (simp; done) | (simp; omega)) _
  have hU : Ints ((w.alloc (.cells #[.slice A n c, .slice A' n' c'] 34)).alloc (.cells #[.slice B m d, .slice B' m' d'] 34)) w.heap.size B m us := (hu.alloc (Nat.le_refl _) _).alloc (by first | omega | (simp; done) | (simp; omega)) _
  have hV : Ints ((w.alloc (.cells #[.slice A n c, .slice A' n' c'] 34)).alloc (.cells #[.slice B m d, .slice B' m' d'] 34)) w.heap.size B' m' vs := (hv.alloc (Nat.le_refl _) _).alloc (by first | omega | (simp; done) | (simp; omega)) _
  cases h1 : (xs == us) <;> cases h2 : (ys == vs)
  all_goals
    go_enter Try.func27, Try.ntmps27
    go_wp2_with fail
    refine (eqIntS_any _ _ _ _ _ _ w.heap.size xs us _ hX hU hn hm).mono ?_
    rintro e w1 ⟨rfl, k1, rfl⟩
    go_wp2_with fail
    try
      refine (eqIntS_any _ _ _ _ _ _ w.heap.size ys vs _ (hY.drewN _) (hV.drewN _) hn' hm').mono ?_
      rintro e w1 ⟨rfl, k2, rfl⟩
      go_wp2
    go_ret
    exact ⟨ret_bool (by first | rfl | simp), (by repeat' (first | with_reducible exact Below.refl _ _ | with_reducible assumption | with_reducible refine Below.setCell ?_ (by first | omega | (simp; done) | (simp; omega)) _ | with_reducible refine Below.alloc ?_ (by first | omega | (simp; done) | (simp; omega)) _ | with_reducible refine below_drewN ?_ _ | with_reducible refine Below.drew ?_ | (with_reducible refine Below.trans ?_ (Below.mono (by with_reducible assumption) (by first | omega | (simp; done) | (simp; omega))))))⟩

theorem sameQueue_any (A A' : Option Addr) (n c n' c' : Nat) (xs ys : List Int) (B B' : Option Addr) (m d m' d' : Nat) (us vs : List Int) (w : World)
    (hx : Ints w w.heap.size A n xs) (hy : Ints w w.heap.size A' n' ys) (hu : Ints w w.heap.size B m us) (hv : Ints w w.heap.size B' m' vs) (hn : n ≤ 1048576) (hn' : n' ≤ 1048576) (hm : m ≤ 1048576) (hm' : m' ≤ 1048576) :
    Calls Try.prog 38 #[.agg #[.slice A n c, .slice A' n' c'], .agg #[.slice B m d, .slice B' m' d']] w fun e w' => e = .returned (.bool ((xs == us) && (ys == vs))) ∧ Below w.heap.size w w' := by
  have hX : Ints ((w.alloc (.cells #[.slice A n c, .slice A' n' c'] 34)).alloc (.cells #[.slice B m d, .slice B' m' d'] 34)) w.heap.size A n xs := (hx.alloc (Nat.le_refl _) _).alloc (by first | omega | (simp; done) | (simp; omega)) _
  have hY : Ints ((w.alloc (.cells #[.slice A n c, .slice A' n' c'] 34)).alloc (.cells #[.slice B m d, .slice B' m' d'] 34)) w.heap.size A' n' ys := (hy.alloc (Nat.le_refl _) _).alloc (by first | omega | (simp; done) | (simp; omega)) _
  have hU : Ints ((w.alloc (.cells #[.slice A n c, .slice A' n' c'] 34)).alloc (.cells #[.slice B m d, .slice B' m' d'] 34)) w.heap.size B m us := (hu.alloc (Nat.le_refl _) _).alloc (by first | omega | (simp; done) | (simp; omega)) _
  have hV : Ints ((w.alloc (.cells #[.slice A n c, .slice A' n' c'] 34)).alloc (.cells #[.slice B m d, .slice B' m' d'] 34)) w.heap.size B' m' vs := (hv.alloc (Nat.le_refl _) _).alloc (by first | omega | (simp; done) | (simp; omega)) _
  cases h1 : (xs == us) <;> cases h2 : (ys == vs)
  all_goals
    go_enter Try.func38, Try.ntmps38
    go_wp2_with fail
    refine (sameInts_any _ _ _ _ _ _ w.heap.size xs us _ hX hU hn hm).mono ?_
    rintro e w1 ⟨rfl, k1, rfl⟩
    go_wp2_with fail
    try
      refine (sameInts_any _ _ _ _ _ _ w.heap.size ys vs _ (hY.drewN _) (hV.drewN _) hn' hm').mono ?_
      rintro e w1 ⟨rfl, k2, rfl⟩
      go_wp2
    go_ret
    exact ⟨ret_bool (by first | rfl | simp), (by repeat' (first | with_reducible exact Below.refl _ _ | with_reducible assumption | with_reducible refine Below.setCell ?_ (by first | omega | (simp; done) | (simp; omega)) _ | with_reducible refine Below.alloc ?_ (by first | omega | (simp; done) | (simp; omega)) _ | with_reducible refine below_drewN ?_ _ | with_reducible refine Below.drew ?_ | (with_reducible refine Below.trans ?_ (Below.mono (by with_reducible assumption) (by first | omega | (simp; done) | (simp; omega))))))⟩

theorem szQueue_yes (A A' : Option Addr) (n c n' c' : Nat) (left : Int) (w : World) (h1 : left ≤ 1048576) (h : (n : Int) + n' ≤ left) :
    Calls Try.prog 23 #[.agg #[.slice A n c, .slice A' n' c'], .int .i64 left] w fun e w' => e = .returned (.int .i64 (left - n - n')) ∧ Below w.heap.size w w' := by
  go_enter Try.func23, Try.ntmps23
  go_wp2_with fail
  refine (szIntS_yes _ _ _ _ _ h1 (by omega)).mono ?_
  rintro e w1 ⟨rfl, rfl⟩
  go_wp2_with fail
  refine (szIntS_yes _ _ _ _ _ (by omega) (by omega)).mono ?_
  rintro e w1 ⟨rfl, rfl⟩
  go_wp2
  go_ret
  exact ⟨rfl, (by repeat' (first | with_reducible exact Below.refl _ _ | with_reducible assumption | with_reducible refine Below.setCell ?_ (by first | omega | (simp; done) | (simp; omega)) _ | with_reducible refine Below.alloc ?_ (by first | omega | (simp; done) | (simp; omega)) _ | with_reducible refine below_drewN ?_ _ | with_reducible refine Below.drew ?_ | (with_reducible refine Below.trans ?_ (Below.mono (by with_reducible assumption) (by first | omega | (simp; done) | (simp; omega))))))⟩
theorem szQueue_no (A A' : Option Addr) (n c n' c' : Nat) (left : Int) (w : World) (h0 : 0 ≤ left) (h1 : left ≤ 1048576) (hn : n ≤ 9223372036854775807) (hn' : n' ≤ 9223372036854775807) (h : left < (n : Int) + n') :
    Calls Try.prog 23 #[.agg #[.slice A n c, .slice A' n' c'], .int .i64 left] w fun e w' => e = .returned (.int .i64 (-1)) ∧ Below w.heap.size w w' := by
  by_cases hl : left < (n : Int)
  · go_enter Try.func23, Try.ntmps23
    go_wp2_with fail
    refine (szIntS_no _ _ _ _ _ h0 h1 hn hl).mono ?_
    rintro e w1 ⟨rfl, rfl⟩
    go_wp2_with fail
    go_ret
    exact ⟨rfl, (by repeat' (first | with_reducible exact Below.refl _ _ | with_reducible assumption | with_reducible refine Below.setCell ?_ (by first | omega | (simp; done) | (simp; omega)) _ | with_reducible refine Below.alloc ?_ (by first | omega | (simp; done) | (simp; omega)) _ | with_reducible refine below_drewN ?_ _ | with_reducible refine Below.drew ?_ | (with_reducible refine Below.trans ?_ (Below.mono (by with_reducible assumption) (by first | omega | (simp; done) | (simp; omega))))))⟩
  · go_enter Try.func23, Try.ntmps23
    go_wp2_with fail
    refine (szIntS_yes _ _ _ _ _ h1 (by omega)).mono ?_
    rintro e w1 ⟨rfl, rfl⟩
    go_wp2_with fail
    refine (szIntS_no _ _ _ _ _ (by omega) (by omega) hn' (by omega)).mono ?_
    rintro e w1 ⟨rfl, rfl⟩
    go_wp2
    go_ret
    exact ⟨rfl, (by repeat' (first | with_reducible exact Below.refl _ _ | with_reducible assumption | with_reducible refine Below.setCell ?_ (by first | omega | (simp; done) | (simp; omega)) _ | with_reducible refine Below.alloc ?_ (by first | omega | (simp; done) | (simp; omega)) _ | with_reducible refine below_drewN ?_ _ | with_reducible refine Below.drew ?_ | (with_reducible refine Below.trans ?_ (Below.mono (by with_reducible assumption) (by first | omega | (simp; done) | (simp; omega))))))⟩

/-- Both rows of a queue hold the numbers from k on. -/
theorem markQueue_any (A A' : Option Addr) (n c n' c' : Nat) (xs ys : List Int) (base : Nat) (k : Int) (w : World) (hx : Own w base A n c xs) (hy : Own w base A' n' c' ys) (hap : Apart A A') (h0 : 0 ≤ k) (hk : k ≤ 1048576) (hn : n ≤ 1048576) (hn' : n' ≤ 1048576) :
    Calls Try.prog 41 #[.agg #[.slice A n c, .slice A' n' c'], .int .i64 k] w fun e w' => e = .returned (.int .i64 (k + n + n')) ∧ Own w' base A n c (marks k n) ∧ Own w' base A' n' c' (marks (k + n) n') ∧
      w.heap.size ≤ w'.heap.size ∧ w'.os = w.os ∧ w'.tape = w.tape ∧ w'.output = w.output ∧ ∀ i, i < w.heap.size → some i ≠ blk A → some i ≠ blk A' → w'.heap[i]? = w.heap[i]? := by
  have b1 : Blk (w.alloc (.cells #[.slice A n c, .slice A' n' c'] 34)) w.heap.size 34 #[.slice A n c, .slice A' n' c'] := Blk.new _ _ _
  have hX := hx.alloc (.cells #[.slice A n c, .slice A' n' c'] 34)
  have hY := hy.alloc (.cells #[.slice A n c, .slice A' n' c'] 34)
  go_enter Try.func41, Try.ntmps41
  go_wp2_with fail
  refine (markIntS_any _ _ _ base xs k _ hX h0 (by omega) (by omega)).mono ?_
  rintro e w1 ⟨rfl, ho1, hg1⟩
  have f1 := (b1.grown hg1 (fun e => by have := (hx.lt e.symm).2; omega)).two
  have hY1 := hY.kept hg1 (fun i hi e => hap i e hi)
  go_wp2_with fail
  refine (markIntS_any _ _ _ base ys (k + n) _ hY1 (by omega) (by omega) (by omega)).mono ?_
  rintro e w2 ⟨rfl, ho2, hg2⟩
  go_wp2
  go_ret
  have hs1 := hg1.size
  have hs2 := hg2.size
  simp at hs1
  refine ⟨rfl, ho1.kept hg2 (fun i hi e => hap i hi e), ho2, by omega, hg2.os.trans hg1.os, hg2.tape.trans hg1.tape, hg2.output.trans hg1.output, fun i hi h1 h2 => ?_⟩
  exact ((hg2.block i (by omega) h2).trans (hg1.block i (by simp; omega) h1)).trans (Below.heap_alloc _ _ _ hi)

theorem heldQueue_any (A A' : Option Addr) (n c n' c' : Nat) (k : Int) (w : World) (hx : Ints w w.heap.size A n (marks k n)) (hy : Ints w w.heap.size A' n' (marks (k + n) n')) (h0 : 0 ≤ k) (hk : k ≤ 1048576) (hn : n ≤ 1048576) (hn' : n' ≤ 1048576) :
    Calls Try.prog 46 #[.agg #[.slice A n c, .slice A' n' c'], .int .i64 k] w fun e w' => e = .returned (.int .i64 (k + n + n')) ∧ Below w.heap.size w w' := by
  have hX := hx.alloc (Nat.le_refl _) (.cells #[.slice A n c, .slice A' n' c'] 34)
  have hY := hy.alloc (Nat.le_refl _) (.cells #[.slice A n c, .slice A' n' c'] 34)
  go_enter Try.func46, Try.ntmps46
  go_wp2_with fail
  refine (heldIntS_any _ _ _ _ k _ hX h0 (by omega) (by omega)).mono ?_
  rintro e w1 ⟨rfl, rfl⟩
  go_wp2_with fail
  refine (heldIntS_any _ _ _ _ (k + n) _ hY (by omega) (by omega) (by omega)).mono ?_
  rintro e w1 ⟨rfl, rfl⟩
  go_wp2
  go_ret
  exact ⟨rfl, (by repeat' (first | with_reducible exact Below.refl _ _ | with_reducible assumption | with_reducible refine Below.setCell ?_ (by first | omega | (simp; done) | (simp; omega)) _ | with_reducible refine Below.alloc ?_ (by first | omega | (simp; done) | (simp; omega)) _ | with_reducible refine below_drewN ?_ _ | with_reducible refine Below.drew ?_ | (with_reducible refine Below.trans ?_ (Below.mono (by with_reducible assumption) (by first | omega | (simp; done) | (simp; omega))))))⟩
end Go.Proofs.Ytdikfkhblkapjaa
