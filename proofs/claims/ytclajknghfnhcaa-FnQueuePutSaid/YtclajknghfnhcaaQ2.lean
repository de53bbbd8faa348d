/-
  Contracts of the queue's copies and comparisons.
-/
import Derived.Test.YtclajknghfnhcaaQ1
import Derived.Test.YtclajknghfnhcaaSame
namespace Go.Proofs.Ytclajknghfnhcaa
open Go.RowKit
set_option linter.unusedVariables false

/-- A call hands back a queue in memory of its own, in two blocks, and changes nothing that was there. -/
def RetQ (xs ys : List Int) (w : World) (e : Ending) (w' : World) : Prop :=
  ∃ A n c A' n' c', e = .returned (.agg #[.slice A n c, .slice A' n' c']) ∧ Own w' w.heap.size A n c xs ∧ Own w' w.heap.size A' n' c' ys ∧ Apart A A' ∧ Below w.heap.size w w'



theorem sameQueue_any (A A' : Option Addr) (n c n' c' : Nat) (xs ys : List Int) (B B' : Option Addr) (m d m' d' : Nat) (us vs : List Int) (w : World)
    (hx : Ints w w.heap.size A n xs) (hy : Ints w w.heap.size A' n' ys) (hu : Ints w w.heap.size B m us) (hv : Ints w w.heap.size B' m' vs) (hn : n ≤ 1048576) (hn' : n' ≤ 1048576) (hm : m ≤ 1048576) (hm' : m' ≤ 1048576) :
    Calls Try.prog 7 #[.agg #[.slice A n c, .slice A' n' c'], .agg #[.slice B m d, .slice B' m' d']] w fun e w' => e = .returned (.bool ((xs == us) && (ys == vs))) ∧ Below w.heap.size w w' := by
  have hX : Ints ((w.alloc (.cells #[.slice A n c, .slice A' n' c'] 25)).alloc (.cells #[.slice B m d, .slice B' m' d'] 25)) w.heap.size A n xs := (hx.alloc (Nat.le_refl _) _).alloc (by first | omega | (simp; done) | (simp; omega)) _
  have hY : Ints ((w.alloc (.cells #[.slice A n c, .slice A' n' c'] 25)).alloc (.cells #[.slice B m d, .slice B' m' d'] 25)) w.heap.size A' n' ys := (hy.alloc (Nat.le_refl _) _).alloc (by first | omega | (simp; done) | (simp; omega)) _
  have hU : Ints ((w.alloc (.cells #[.slice A n c, .slice A' n' c'] 25)).alloc (.cells #[.slice B m d, .slice B' m' d'] 25)) w.heap.size B m us := (hu.alloc (Nat.le_refl _) _).alloc (by first | omega | (simp; done) | (simp; omega)) _
  have hV : Ints ((w.alloc (.cells #[.slice A n c, .slice A' n' c'] 25)).alloc (.cells #[.slice B m d, .slice B' m' d'] 25)) w.heap.size B' m' vs := (hv.alloc (Nat.le_refl _) _).alloc (by first | omega | (simp; done) | (simp; omega)) _
  cases h1 : (xs == us) <;> cases h2 : (ys == vs)
  all_goals
    go_enter Try.func7, Try.ntmps7
    go_wp2_with fail
    refine (sameInts_any _ _ _ _ _ _ w.heap.size xs us _ hX hU hn hm).mono ?_
    rintro e w1 ⟨rfl, k1, rfl⟩
    go_wp2_with fail
    try
      refine (sameInts_any _ _ _ _ _ _ w.heap.size ys vs _ (hY.drewN _) (hV.drewN _) hn' hm').mono ?_
      rintro e w1 ⟨rfl, k2, rfl⟩
      go_wp2
    go_ret
    exact ⟨ret_bool (by first | rfl | simp), (by repeat' (first | with_reducible exact Below.refl _ _ | with_reducible assumption | with_reducible refine Below.setCell ?_ (by first | omega | (simp; done) | (simp; omega)) _ | with_reducible refine Below.alloc ?_ (by first | omega | (simp; done) | (simp; omega)) _ | with_reducible refine below_drewN ?_ _ | with_reducible refine Below.drew ?_ | (with_reducible refine Below.trans ?_ (Below.mono (by with_reducible assumption) (by first | omega | (simp; done) | (simp; omega))))))⟩



end Go.Proofs.Ytclajknghfnhcaa
