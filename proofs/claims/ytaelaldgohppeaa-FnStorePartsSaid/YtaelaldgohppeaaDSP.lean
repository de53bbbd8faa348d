/-
  The draws of a state's laws: a state and a group.
-/
import Derived.Test.YtaelaldgohppeaaDS
namespace Go.Proofs.Ytaelaldgohppeaa
open Go.RowKit
set_option linter.unusedVariables false

/-- A state and a number are drawn into memory of the call's own. -/
def DrewSN (w : World) (e : Ending) (w' : World) : Prop := ∃ A n c xs x, e = .returned (.tuple #[.slice A n c, .int .i64 x]) ∧ Own w' w.heap.size A n c xs ∧ n ≤ 15 ∧ Below w.heap.size w w'
theorem drawStorePart_any (A : Option Addr) (n c : Nat) (bs : List Int) (w : World) (hb : Bytes w w.heap.size A n bs) (hn : n ≤ 1048576) (hc : n ≤ c) (hc' : c ≤ 9223372036854775807) :
    Calls Try.prog 33 #[.slice A n c] w (DrewSN w) := by
  go_enter Try.func33, Try.ntmps33
  go_wp2_with fail
  refine (open_any _ _ _ _ _ hb hn hc hc').mono ?_
  rintro e w0 ⟨g, rfl, hr0, hg0, hb0⟩
  go_wp2_with fail
  refine (l92State_any _ _ _ _ hr0 (by omega) (by omega)).mono ?_
  rintro e w1 ⟨A1, n1, c1, xs, p', rfl, ho1, hn1, hr1, hp1, hp2, hgr, hbl⟩
  have hgl := hr0.lt
  have hB1 : Below w.heap.size w w1 := hb0.trans (hbl.mono hgl.2)
  have zg := hb0.size
  clear hb0 hbl hgr hr0
  have K : ∀ {wx wy : World} {p : Int}, Below w.heap.size w wx ∧ Own wx w0.heap.size A1 n1 c1 xs → Rdr wx w.heap.size g p → wx.grownBy wy (some g) → Below g wx wy → Below w.heap.size w wy ∧ Own wy w0.heap.size A1 n1 c1 xs := by
    intro wx wy p h hr hg hb
    have := hr.lt
    exact ⟨h.1.trans (hb.mono (by omega)), h.2.kept hg (fun k hk e => by injection e with e; have := h.2.lt hk; omega)⟩
  go_wp2_with fail
  refine (pick_pos _ g _ _ _ hr1 (by omega) (by omega) (by omega) (by omega)).mono ?_
  rintro e w2 ⟨x1, rfl, hx10, hx11, hr2, hg2, hs2, hb2⟩
  have h2 := K ⟨hB1, ho1⟩ hr1 hg2 hb2
  clear hr1 hg2 hb2 hs2 hB1 ho1
  go_wp2_with fail
  refine (pick_pos _ g _ _ _ hr2 (by omega) (by omega) (by omega) (by omega)).mono ?_
  rintro e w3 ⟨x2, rfl, hx20, hx21, hr3, hg3, hs3, hb3⟩
  have h3 := K h2 hr2 hg3 hb3
  clear hr2 hg3 hb3 hs3 h2
  go_wp2_with fail
  refine (pick_pos _ g _ _ _ hr3 (by omega) (by omega) (by omega) (by omega)).mono ?_
  rintro e w4 ⟨x3, rfl, hx30, hx31, hr4, hg4, hs4, hb4⟩
  have h4 := K h3 hr3 hg4 hb4
  clear hr3 hg4 hb4 hs4 h3
  go_wp2
  go_ret2
  exact ⟨_, _, _, _, _, rfl, h4.2.mono zg, hn1, h4.1⟩
end Go.Proofs.Ytaelaldgohppeaa
