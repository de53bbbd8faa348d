/-
  A transaction's contracts in the one form of the Exact laws.
-/
import Derived.Test.YtaelaldgohppeaaXM
import Derived.Test.YtaelaldgohppeaaT6
namespace Go.Proofs.Ytaelaldgohppeaa
open Go.RowKit
set_option linter.unusedVariables false

theorem rowP {w : World} {b n c : Nat} {A : Option Addr} {ps : List (Int × Int)} (h : OwnP w b A n c ps) : RowP w b w.heap.size A n c ps := ⟨h, fun k hk => (h.lt hk).2⟩
theorem RowP.ints {w : World} {b e n c : Nat} {A : Option Addr} {ps : List (Int × Int)} (h : RowP w b e A n c ps) {B : Nat} (hB : e ≤ B) : Puts w B A n ps := h.puts hB
/-- A row of puts of which only the place is told. -/
def RowX (w : World) (b e : Nat) (A : Option Addr) (n c : Nat) : Prop := ∃ ps, RowP w b e A n c ps
theorem RowX.keep {w w' : World} {b e n c : Nat} {A : Option Addr} (h : RowX w b e A n c) (hs : Same b e w w') : RowX w' b e A n c := let ⟨ps, h1⟩ := h; ⟨ps, h1.keep hs⟩
theorem toTxn_x (A : Option Addr) (n c : Nat) (B : Option Addr) (m d : Nat) (nd : Int) (rs : List Int) (ps : List (Int × Int)) (w : World) (hr : Ints w w.heap.size A n rs) (hp : Puts w w.heap.size B m ps) (hn : n ≤ 1048576) (hm : m ≤ 1048576) :
    Calls Try.prog 44 #[.agg #[.slice A n c, .int .i64 nd, .slice B m d]] w (RetTx rs nd ps w) := toTxn_r A n c nd B m d rs ps w hr hp hn hm
theorem eqTxn_x (A : Option Addr) (n c : Nat) (B : Option Addr) (m d : Nat) (nd : Int) (rs : List Int) (ps : List (Int × Int)) (A' : Option Addr) (n' c' : Nat) (B' : Option Addr) (m' d' : Nat) (w : World)
    (hr : Ints w w.heap.size A n rs) (hp : Puts w w.heap.size B m ps) (hr' : Ints w w.heap.size A' n' rs) (hp' : Puts w w.heap.size B' m' ps) (hn : n ≤ 1048576) (hm : m ≤ 1048576) (hn' : n' ≤ 1048576) (hm' : m' ≤ 1048576) :
    Calls Try.prog 46 #[.agg #[.slice A n c, .int .i64 nd, .slice B m d], .agg #[.slice A' n' c', .int .i64 nd, .slice B' m' d']] w (RetV (.bool true) w) := eqTxn_same A n c nd B m d A' n' c' B' m' d' rs ps w hr hp hr' hp' hn hm hn'
theorem szTxn_yes_x (A : Option Addr) (n c : Nat) (B : Option Addr) (m d : Nat) (nd left : Int) (w : World) (h1 : left ≤ 1048576) (h : (n : Int) + (m : Int) ≤ left) :
    Calls Try.prog 42 #[.agg #[.slice A n c, .int .i64 nd, .slice B m d], .int .i64 left] w (RetV (.int .i64 (left - n - m)) w) := szTxn_yes A n c nd B m d left w h1 h
theorem szTxn_no_x (A : Option Addr) (n c : Nat) (B : Option Addr) (m d : Nat) (nd left : Int) (w : World) (h0 : 0 ≤ left) (h1 : left ≤ 1048576) (hn : n ≤ 9223372036854775807) (hm : m ≤ 9223372036854775807) (h : left < (n : Int) + (m : Int)) :
    Calls Try.prog 42 #[.agg #[.slice A n c, .int .i64 nd, .slice B m d], .int .i64 left] w (RetV (.int .i64 (-1)) w) := szTxn_no A n c nd B m d left w h0 h1 hn hm h
def MarkedT (b e : Nat) (A : Option Addr) (n c : Nat) (B : Option Addr) (m d : Nat) (k : Int) (w : World) (r : Ending) (w' : World) : Prop :=
  r = .returned (.int .i64 (k + n + 2 * m)) ∧ Touch b e w w'
theorem specTV_x (A : Option Addr) (n c : Nat) (B : Option Addr) (m d : Nat) (nd : Int) (rs : List Int) (ps : List (Int × Int)) (w : World) (hr : Ints w w.heap.size A n rs) (hp : Puts w w.heap.size B m ps) (hn : n ≤ 1048576) (hm : m ≤ 1048576) :
    Calls Try.prog 43 #[.agg #[.slice A n c, .int .i64 nd, .slice B m d]] w (RetV (.bool (tvB ⟨rs, nd, ps⟩)) w) := specTV_any A n c nd B m d rs ps w hr hp hn hm
theorem implTV_x (A : Option Addr) (n c : Nat) (B : Option Addr) (m d : Nat) (nd : Int) (rs : List Int) (ps : List (Int × Int)) (w : World) (hr : Ints w w.heap.size A n rs) (hp : Puts w w.heap.size B m ps) (hn : n ≤ 1048576) (hm : m ≤ 1048576) :
    Calls Try.prog 45 #[.agg #[.slice A n c, .int .i64 nd, .slice B m d]] w (RetV (.bool (tvB ⟨rs, nd, ps⟩)) w) := implTV_any A n c nd B m d rs ps w hr hp hn hm
theorem specTG_x (A : Option Addr) (n c : Nat) (B : Option Addr) (m d : Nat) (nd : Int) (rs : List Int) (ps : List (Int × Int)) (w : World) (hr : Ints w w.heap.size A n rs) (hp : Puts w w.heap.size B m ps) (hn : n ≤ 1048576) (hm : m ≤ 1048576) :
    Calls Try.prog 49 #[.agg #[.slice A n c, .int .i64 nd, .slice B m d]] w (RetInts (tgL ⟨rs, nd, ps⟩) w) := specTG_any A n c nd B m d rs ps w hr hp hn hm
theorem implTG_x (A : Option Addr) (n c : Nat) (B : Option Addr) (m d : Nat) (nd : Int) (rs : List Int) (ps : List (Int × Int)) (w : World) (hr : Ints w w.heap.size A n rs) (hp : Puts w w.heap.size B m ps) (hn : n ≤ 1048576) (hm : m ≤ 1048576) :
    Calls Try.prog 48 #[.agg #[.slice A n c, .int .i64 nd, .slice B m d]] w (RetInts (tgL ⟨rs, nd, ps⟩) w) := implTG_any A n c nd B m d rs ps w hr hp hn hm
end Go.Proofs.Ytaelaldgohppeaa
