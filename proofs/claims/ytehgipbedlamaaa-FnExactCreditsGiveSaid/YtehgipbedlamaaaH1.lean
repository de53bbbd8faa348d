/-
  Words on memory: a slice of senders' states (elements of two cells), credits; tests of credits.
-/
import Derived.Test.YtehgipbedlamaaaCL
import Derived.Test.YtehgipbedlamaaaG2
import Derived.Test.YtehgipbedlamaaaS1
namespace Go.Proofs.Ytehgipbedlamaaa
open Go.RowKit
set_option linter.unusedVariables false

/-- A sender's row: what it has, what it waits for. -/
structure HR where
  A : Option Addr
  n : Nat
  c : Nat
  wait : Int
def HR.cells (r : HR) : List Value := [.slice r.A r.n r.c, .int .i64 r.wait]
def hcv (R : List HR) : List Value := R.flatMap HR.cells
theorem hcv_cons (r : HR) (R : List HR) : hcv (r :: R) = r.cells ++ hcv R := rfl
theorem hcv_length (R : List HR) : (hcv R).length = R.length * 2 := by
  induction R with
  | nil => rfl
  | cons r R ih => rw [hcv_cons, List.length_append, ih]; simp [HR.cells]; omega
theorem hcv_append (R S : List HR) : hcv (R ++ S) = hcv R ++ hcv S := by simp [hcv]
theorem hcv_one (r : HR) : hcv [r] = r.cells := by simp [hcv]
theorem hcv_cells (R : List HR) : ∀ u ∈ hcv R, u.oneCell' = true := by
  intro u hu
  simp only [hcv, List.mem_flatMap, HR.cells] at hu
  obtain ⟨r, _, hp⟩ := hu
  simp only [List.mem_cons, List.not_mem_nil, or_false] at hp
  rcases hp with rfl | rfl <;> rfl
theorem hcv_get : ∀ {R : List HR} {k : Nat} {r : HR}, R[k]? = some r → (hcv R)[k * 2]? = some (.slice r.A r.n r.c) ∧ (hcv R)[k * 2 + 1]? = some (.int .i64 r.wait)
  | [], k, r, h => by simp at h
  | q :: R, 0, r, h => by
    simp only [List.getElem?_cons_zero, Option.some.injEq] at h
    subst h
    exact ⟨rfl, rfl⟩
  | q :: R, k + 1, r, h => by
    simp only [List.getElem?_cons_succ] at h
    have := hcv_get h
    rw [hcv_cons, show (k + 1) * 2 = k * 2 + 1 + 1 by omega]
    exact this
theorem hcv_set : ∀ {R : List HR} {k : Nat} (r : HR), ((hcv R).set (k * 2) (.slice r.A r.n r.c)).set (k * 2 + 1) (.int .i64 r.wait) = hcv (R.set k r)
  | [], k, r => rfl
  | p :: R, 0, r => rfl
  | p :: R, k + 1, r => by
    rw [hcv_cons, show (k + 1) * 2 = k * 2 + 1 + 1 by omega]
    simp only [HR.cells, List.cons_append, List.nil_append, List.set_cons_succ, hcv_cons]
    rw [hcv_set r]

/-- The slice reads as these senders' states. -/
structure HoldS (w : World) (B : Nat) (A : Option Addr) (n : Nat) (R : List HR) (hs : List HX) : Prop where
  o : Reads w B 2 A n (hcv R)
  l : hs.length = n
  i : ∀ (k : Nat) (r : HR) (h : HX), R[k]? = some r → hs[k]? = some h → Ints w B r.A r.n h.has ∧ r.wait = h.wait ∧ r.n ≤ 1048576
section
variable {w w' : World} {B B' n : Nat} {A : Option Addr} {R : List HR} {hs : List HX}
theorem HoldS.rlen (h : HoldS w B A n R hs) : R.length = n := by have := h.o.1; rw [hcv_length] at this; omega
theorem HoldS.below (h : HoldS w B A n R hs) (hb : Below B w w') : HoldS w' B A n R hs := ⟨h.o.below hb, h.l, fun k r t hr ht => ⟨(h.i k r t hr ht).1.below hb, (h.i k r t hr ht).2⟩⟩
theorem HoldS.more (h : HoldS w B A n R hs) (hB : B ≤ B') : HoldS w B' A n R hs := ⟨h.o.more hB, h.l, fun k r t hr ht => ⟨(h.i k r t hr ht).1.more hB, (h.i k r t hr ht).2⟩⟩
theorem HoldS.up (h : HoldS w B A n R hs) (hb : Below B w w') (hB : B ≤ w'.heap.size) : HoldS w' w'.heap.size A n R hs := (h.below hb).more hB
/-- The k-th of them, its cells in the walk's spellings. -/
theorem HoldS.el (h : HoldS w B A n R hs) {k : Nat} (hk : k < n) : ∃ (ad : Addr) (A1 : Option Addr) (n1 c1 : Nat) (v : Int) (xs : List Int), A = some ad ∧ ad.block < B ∧
    w.cell? (ad.add (k * 2)) = some (.slice A1 n1 c1) ∧ w.cell? ((ad.add (k * 2)).add 1) = some (.int .i64 v) ∧ w.cell? ⟨(ad.add (k * 2)).block, (ad.add (k * 2)).off + 1, none⟩ = some (.int .i64 v) ∧ w.cell? ((ad.add (k * 2)).add 0) = some (.slice A1 n1 c1) ∧
    Ints w B A1 n1 xs ∧ n1 ≤ 1048576 ∧ Hid (hs[k]? = some ⟨xs, v⟩) ∧ Hid (hs.take (k + 1) = hs.take k ++ [⟨xs, v⟩]) ∧ Hid (R[k]? = some ⟨A1, n1, c1, v⟩) := by
  obtain ⟨ad, hA, hb, hc⟩ := h.o.2 (by omega)
  have hl : k < R.length := by rw [h.rlen]; exact hk
  have hlt : k < hs.length := by rw [h.l]; exact hk
  have e : R[k]? = some R[k] := List.getElem?_eq_getElem hl
  have et : hs[k]? = some hs[k] := List.getElem?_eq_getElem hlt
  obtain ⟨g0, g1⟩ := hcv_get e
  obtain ⟨i1, i2, i3⟩ := h.i k _ _ e et
  have c0 := hc _ _ g0
  have c1 := hc _ _ g1
  have ht : hs[k] = ⟨hs[k].has, R[k].wait⟩ := by rw [i2]
  have a1 : (ad.add (k * 2)).add 1 = ad.add (k * 2 + 1) := add_of_add ad _ 1
  have b1 : (⟨(ad.add (k * 2)).block, (ad.add (k * 2)).off + 1, none⟩ : Addr) = ad.add (k * 2 + 1) := by rw [← a1]; rfl
  exact ⟨ad, R[k].A, R[k].n, R[k].c, R[k].wait, hs[k].has, hA, hb, c0, by rw [a1]; exact c1, by rw [b1]; exact c1, by rw [show (ad.add (k * 2)).add 0 = ad.add (k * 2) by simp [Addr.add]]; exact c0, i1, i3,
    Lib.hid (by rw [et, ← ht]), Lib.hid (by rw [List.take_succ_eq_append_getElem hlt, ← ht]), Lib.hid e⟩
end
/-- Credits read. -/
structure Cr (w : World) (B : Nat) (F : Option Addr) (nf : Nat) (A : Option Addr) (n : Nat) (R : List HR) (c : CX) : Prop where
  f : Ints w B F nf c.free
  h : HoldS w B A n R c.holds
section
variable {w w' : World} {B B' nf n : Nat} {F A : Option Addr} {R : List HR} {c : CX}
theorem Cr.below (h : Cr w B F nf A n R c) (hb : Below B w w') : Cr w' B F nf A n R c := ⟨h.f.below hb, h.h.below hb⟩
theorem Cr.more (h : Cr w B F nf A n R c) (hB : B ≤ B') : Cr w B' F nf A n R c := ⟨h.f.more hB, h.h.more hB⟩
theorem Cr.up (h : Cr w B F nf A n R c) (hb : Below B w w') (hB : B ≤ w'.heap.size) : Cr w' w'.heap.size F nf A n R c := (h.below hb).more hB
theorem Cr.box (h : Cr w w.heap.size F nf A n R c) (o : Obj) : Cr (w.alloc o) (w.alloc o).heap.size F nf A n R c := h.up ((Below.refl _ _).alloc (Nat.le_refl _) o) (by simp)
end
theorem cv_no {c : CX} {k : Nat} {h : HX} (hk : c.holds[k]? = some h) (hv : hvB c.free h = false) : cvB c = false := by
  have : c.holds.all (hvB c.free) = false := by
    rw [List.all_eq_false]
    exact ⟨h, List.mem_of_getElem? hk, by simp [hv]⟩
  simp [cvB, this]
theorem all_snoc {f : HX → Bool} {hs : List HX} {k : Nat} {h : HX} (hs1 : hs.take (k + 1) = hs.take k ++ [h]) (h1 : (hs.take k).all f = true) (h2 : f h = true) : (hs.take (k + 1)).all f = true := by
  rw [hs1, List.all_append, h1]; simp [h2]

theorem areFree_any (A : Option Addr) (n c B : Nat) (xs : List Int) (w : World) (hr : Ints w B A n xs) (hn : n ≤ 1048576) :
    Calls Try.prog 45 #[.slice A n c] w fun e w' => e = .returned (.bool (frB xs)) ∧ w = w' := by
  have hl := Lib.hid hr.len
  by_cases h5 : n = 5
  · have h5' : ((n : Int) == 5) = true := by rw [h5]; rfl
    have H5 := Lib.hid h5
    clear h5
    go_enter Try.func45, Try.ntmps45
    go_wp2_with (go_at_call 65; refine (inRange_any _ _ _ B xs _ _ _ hr hn).mono ?_; rintro e w' ⟨rfl, rfl⟩)
    go_ret
    exact ⟨ret_bool (by simp [frB, hl.out, H5.out]), rfl⟩
  · have h5' : ((n : Int) == 5) = false := by rw [beq_eq_false_iff_ne]; omega
    have H5 := Lib.hid h5
    clear h5
    go_enter Try.func45, Try.ntmps45
    go_wp2
    go_ret
    exact ⟨ret_bool (by simp [frB, hl.out, H5.out]), rfl⟩
theorem fr_no {xs : List Int} {k : Nat} {x : Int} (hk : xs[k]? = some x) (h : inB x 0 9 = false) : frB xs = false := by
  have : inR xs 0 9 = false := by
    cases hh : inR xs 0 9
    · rfl
    · have h1 := inR_iff.1 hh x (List.mem_of_getElem? hk)
      rw [show inB x 0 9 = true by simp [inB]; omega] at h
      cases h
  simp [frB, this]
theorem l22Free_any (A : Option Addr) (n c B : Nat) (xs : List Int) (w : World) (hr : Ints w B A n xs) (hn : n ≤ 1048576) :
    Calls Try.prog 62 #[.slice A n c] w fun e w' => e = .returned (.bool (frB xs)) ∧ w = w' := by
  have hl := Lib.hid hr.len
  go_enter Try.func62, Try.ntmps62
  go_wp2
  go_loopw [3] (fun i wr => ∃ k : Nat, k ≤ n ∧ i = .int .i64 k ∧ inR (xs.take k) 0 9 = true ∧ wr = w) (fun i _ => n - (intOf i).toNat)
  case atStart => exact ⟨0, Nat.zero_le _, rfl, by simp [inR], rfl⟩
  case round =>
    obtain ⟨k, hk, rfl, hall, rfl⟩ := hrel
    have HA := Lib.hid hall
    clear hall
    by_cases hlt : k < n
    · obtain ⟨ad, x, rfl, hb, hc, hx, hs⟩ := hr.elem hlt
      go_wp2_with fail
      refine (l6In_any x 0 9 _).mono ?_
      rintro e w1 ⟨rfl, rfl⟩
      cases hd : inB x 0 9
      · go_wp2
        go_ret
        exact ⟨ret_bool (fr_no hx.out hd).symm, rfl⟩
      · have HD := Lib.hid hd
        clear hd
        go_wp2
        go_roundw
        case rel => exact ⟨k + 1, by omega, by go_num, by rw [hs.out, inR, List.all_append]; simpa [inR, inB] using And.intro HA.out HD.out, by simp⟩
        case measure => simp [intOf]; omega
    · obtain rfl : k = n := by omega
      rw [List.take_of_length_le (by rw [hl.out]; exact Nat.le_refl _)] at HA
      go_wp2
      go_ret
      exact ⟨ret_bool (by
        rw [show frB xs = decide (k = 5) by simp [frB, hl.out, HA.out]]
        by_cases h5 : k = 5
        · simp [h5]
        · rw [decide_eq_false h5, beq_eq_false_iff_ne]; omega), rfl⟩
end Go.Proofs.Ytehgipbedlamaaa
