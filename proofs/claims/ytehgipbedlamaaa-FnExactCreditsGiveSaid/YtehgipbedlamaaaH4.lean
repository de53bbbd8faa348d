/-
  with and isSender, the program's.
-/
import Derived.Test.YtehgipbedlamaaaH2
namespace Go.Proofs.Ytehgipbedlamaaa
open Go.RowKit
set_option linter.unusedVariables false

theorem wiAcc_any (g1 g2 : Nat) (A : Option Addr) (n c B : Nat) (v g : Int) (xs : List Int) (w : World) (b1 : Blk w g1 23 #[.slice A n c]) (b2 : Blk w g2 3 #[.int .i64 g]) (hx : Ints w B A n xs) (hn : n ≤ 1048576) :
    Calls Try.prog 61 #[.int .i64 v, .pointer (some ⟨g2, 0, none⟩), .pointer (some ⟨g1, 0, none⟩)] w (RetV (.bool (v == g || hasB xs v)) w) := by
  have f1 := b1.one
  have f2 := b2.one
  cases h1 : (v == g)
  all_goals
    go_enter Try.func61, Try.ntmps61
    go_wp2_with (go_at_call 41; refine (gHas_any A n c B xs v _ hx hn).mono ?_; rintro e w' ⟨rfl, rfl⟩)
    go_ret
    exact ⟨ret_bool (by first | (simp; done) | simp [h1]), Below.refl _ _⟩
set_option maxHeartbeats 1000000 in
theorem with_any (A : Option Addr) (n c : Nat) (g : Int) (xs : List Int) (w : World) (hx : Ints w w.heap.size A n xs) (hn : n ≤ 1048576) :
    Calls Try.prog 36 #[.slice A n c, .int .i64 g] w (RetInts (wiL xs g) w) := by
  have b1 := (Blk.new w 23 #[.slice A n c]).alloc (.cells #[.int .i64 g] 3)
  have b2 := Blk.new (w.alloc (.cells #[.slice A n c] 23)) 3 #[.int .i64 g]
  simp only [World.size_alloc] at b2
  have hX := (hx.box (.cells #[.slice A n c] 23)).box (.cells #[.int .i64 g] 3)
  have hB0 : Below w.heap.size w ((w.alloc (.cells #[.slice A n c] 23)).alloc (.cells #[.int .i64 g] 3)) := (by repeat' (first | with_reducible exact Below.refl _ _ | with_reducible assumption | with_reducible refine Below.setCell ?_ (by first | omega | (simp; done) | (simp; omega)) _ | with_reducible refine Below.alloc ?_ (by first | omega | (simp; done) | (simp; omega)) _ | with_reducible refine below_drewN ?_ _ | with_reducible refine Below.drew ?_ | (with_reducible refine Below.trans ?_ (Below.mono (by with_reducible assumption) (by first | omega | (simp; done) | (simp; omega))))))
  generalize hW : (w.alloc (.cells #[.slice A n c] 23)).alloc (.cells #[.int .i64 g] 3) = W at b1 b2 hX hB0
  have f1 := b1.one
  have f2 := b2.one
  have zW := hB0.size
  go_enter Try.func36, Try.ntmps36
  go_wp2_with fail
  refine (pick5_any 61 #[.pointer (some ⟨w.heap.size + 1, 0, none⟩), .pointer (some ⟨w.heap.size, 0, none⟩)] (fun x => x == g || hasB xs x) _ (fun _ _ => rfl) ?_).mono ?_
  · intro m w' hm hb
    exact wiAcc_any w.heap.size (w.heap.size + 1) A n c w'.heap.size m g xs w' (b1.below hb b1.lt) (b2.below hb b2.lt) (hX.up hb hb.size) hn
  rintro e w3 ⟨A3, n3, c3, rfl, o3, hb3⟩
  go_wp2
  go_ret
  exact ⟨A3, n3, c3, rfl, o3.mono zW, hB0.trans (hb3.mono zW)⟩
theorem isSender_any (F : Option Addr) (nf cf : Nat) (A : Option Addr) (n c : Nat) (s : Int) (w : World) (hn : n ≤ 1048576) :
    Calls Try.prog 33 #[.agg #[.slice F nf cf, .slice A n c], .int .i64 s] w (RetV (.bool (inB s 0 ((n : Int) - 1))) w) := by
  have b0 := Blk.new w 26 #[.slice F nf cf, .slice A n c]
  have f0 := b0.two
  by_cases h0 : 0 ≤ s
  · by_cases h1 : s < (n : Int)
    all_goals
      go_enter Try.func33, Try.ntmps33
      go_wp2
      go_ret
      exact ⟨ret_bool (by simp [inB]; omega), (by repeat' (first | with_reducible exact Below.refl _ _ | with_reducible assumption | with_reducible refine Below.setCell ?_ (by first | omega | (simp; done) | (simp; omega)) _ | with_reducible refine Below.alloc ?_ (by first | omega | (simp; done) | (simp; omega)) _ | with_reducible refine below_drewN ?_ _ | with_reducible refine Below.drew ?_ | (with_reducible refine Below.trans ?_ (Below.mono (by with_reducible assumption) (by first | omega | (simp; done) | (simp; omega))))))⟩
  · go_enter Try.func33, Try.ntmps33
    go_wp2
    go_ret
    exact ⟨ret_bool (by simp [inB]; omega), (by repeat' (first | with_reducible exact Below.refl _ _ | with_reducible assumption | with_reducible refine Below.setCell ?_ (by first | omega | (simp; done) | (simp; omega)) _ | with_reducible refine Below.alloc ?_ (by first | omega | (simp; done) | (simp; omega)) _ | with_reducible refine below_drewN ?_ _ | with_reducible refine Below.drew ?_ | (with_reducible refine Below.trans ?_ (Below.mono (by with_reducible assumption) (by first | omega | (simp; done) | (simp; omega))))))⟩
end Go.Proofs.Ytehgipbedlamaaa
