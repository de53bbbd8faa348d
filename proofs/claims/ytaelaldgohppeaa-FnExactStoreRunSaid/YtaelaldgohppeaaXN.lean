/-
  markTxnS: marks in a list of transactions of the call's own touch only its blocks.
-/
import Derived.Test.YtaelaldgohppeaaXR
import Derived.Test.YtaelaldgohppeaaSSm
namespace Go.Proofs.Ytaelaldgohppeaa
open Go.RowKit
set_option linter.unusedVariables false

/-- How many numbers marks take. -/
def mkT : List TR → Int
  | [] => 0
  | r :: R => (r.n1 : Int) + 1 + 2 * (r.n2 : Int) + mkT R
theorem mkT_append (R S : List TR) : mkT (R ++ S) = mkT R + mkT S := by
  induction R with
  | nil => simp [mkT]
  | cons r R ih => simp only [List.cons_append, mkT, ih]; omega
theorem mkT_nonneg (R : List TR) : 0 ≤ mkT R := by
  induction R with
  | nil => simp [mkT]
  | cons r R ih => simp only [mkT]; omega
theorem mkT_take_le (R : List TR) (k : Nat) : mkT (R.take k) ≤ mkT R := by
  have h := mkT_append (R.take k) (R.drop k)
  rw [List.take_append_drop] at h
  have := mkT_nonneg (R.drop k)
  omega
theorem mkT_le (R : List TR) : mkT R ≤ 2 * totT R + R.length := by
  induction R with
  | nil => simp [mkT, totT]
  | cons r R ih => simp only [mkT, totT, List.length_cons]; omega
theorem tcv_setnd : ∀ {R : List TR} {k : Nat} {r : TR} (v : Int), R[k]? = some r → (tcv R).set (k * 3 + 1) (.int .i64 v) = tcv (R.set k { r with nd := v })
  | [], k, r, v, h => by simp at h
  | p :: R, 0, r, v, h => by
    simp only [List.getElem?_cons_zero, Option.some.injEq] at h
    subst h
    rfl
  | p :: R, k + 1, r, v, h => by
    simp only [List.getElem?_cons_succ] at h
    rw [tcv_cons, show (k + 1) * 3 + 1 = k * 3 + 1 + 1 + 1 + 1 by omega]
    simp only [TR.cells, List.cons_append, List.nil_append, List.set_cons_succ, tcv_cons]
    rw [tcv_setnd v h]

set_option maxHeartbeats 4000000 in
theorem markTxnS_t (A : Option Addr) (n c b e : Nat) (R : List TR) (ts : List TX) (k : Int) (w : World) (hr : OwnT w b e A n c R ts) (he : e ≤ w.heap.size) (h0 : 0 ≤ k) (hk : k ≤ 2097152) (hT : mkT R ≤ 2097152) (hl : ∀ r ∈ R, r.n1 ≤ 1048576 ∧ r.n2 ≤ 1048576) (hn : n ≤ 1048576) :
    Calls Try.prog 65 #[.slice A n c, .int .i64 k] w fun r w' => r = .returned (.int .i64 (k + mkT R)) ∧ Touch b e w w' := by
  have hRl := Lib.hid hr.rlen
  have hxl := Lib.hid hr.len
  obtain ⟨m, hbm, hout, hrows⟩ := hr
  have hme := hrows.le
  have HL := Lib.hid hl
  have hTT := Lib.hid hT
  clear hT hl
  go_enter Try.func65, Try.ntmps65
  go_wp2
  go_loopw [1, 5] (fun q i wr => ∃ (j : Nat) (x : Int) (m' : Nat) (R' : List TR), j ≤ n ∧ i = .int .i64 j ∧ q = .int .i64 (k + x) ∧ 0 ≤ x ∧ x ≤ 2097152 ∧ Hid (x = mkT (R.take j)) ∧ Hid (R'.drop j = R.drop j) ∧ m ≤ m' ∧ Row 47 3 wr b m A n c (tcv R') ∧ RowsT wr m' e (R.drop j) (ts.drop j) ∧ Touch b e w wr) (fun _ i _ => n - (intOf i).toNat)
  case atStart => exact ⟨0, 0, m, R, Nat.zero_le _, rfl, by simp, by omega, by omega, Lib.hid (by simp [mkT]), Lib.hid rfl, Nat.le_refl _, hout, by simpa using hrows, Touch.refl2 _ _ _⟩
  case round =>
    obtain ⟨j, x, m', R', hj, rfl, rfl, hx0, hx9, hx, hdr, hmm, hout', htodo, htch⟩ := hrel
    clear hout hrows
    by_cases hlt : j < n
    · obtain ⟨g, cap, hv, hgb, hgl⟩ := World.ownsRow.form hout'.1 (by omega)
      obtain ⟨rfl, rfl⟩ : A = some ⟨g, 0, none⟩ ∧ c = cap := by injection hv with h1 h2 h3; exact ⟨h1, h3⟩
      have hgm : g < m := hout'.2 g rfl
      have hRj : j < R.length := by rw [hRl.out]; exact hlt
      have hXj : j < ts.length := by rw [hxl.out]; exact hlt
      have e1 : R[j]? = some R[j] := List.getElem?_eq_getElem hRj
      have e1' : R'[j]? = some R[j] := by
        have h1 : (R'.drop j)[0]? = (R.drop j)[0]? := by rw [hdr.out]
        rw [List.getElem?_drop, List.getElem?_drop] at h1
        simpa [e1] using h1
      have hl12 := HL.out _ (List.getElem_mem hRj)
      have hnx : mkT (R.take (j + 1)) = mkT (R.take j) + ((R[j].n1 : Int) + 1 + 2 * (R[j].n2 : Int)) := by rw [List.take_add_one, e1, mkT_append]; simp [mkT]
      have hle := mkT_take_le R (j + 1)
      rw [List.drop_eq_getElem_cons hRj, List.drop_eq_getElem_cons hXj] at htodo
      obtain ⟨m2, hm2, hrow, hnd, hput, htodo⟩ := htodo
      have hdr2 : R'.drop (j + 1) = R.drop (j + 1) := by
        have h1 := congrArg (List.drop 1) hdr.out
        simpa [List.drop_drop, Nat.add_comm] using h1
      obtain ⟨y0, y1, y2⟩ := tcv_get e1'
      have HST : Hid (∀ v : Int, (tcv R').set (j * 3 + 1) (.int .i64 v) = tcv (R'.set j { R[j] with nd := v })) := Lib.hid (fun v => tcv_setnd v e1')
      generalize R[j] = r at hrow hnx hnd hput y0 y1 y2 hl12 HST
      generalize ts[j] = t at hrow hnd hput
      obtain ⟨A1, n1, c1, nd, A2, n2, c2⟩ := r
      obtain ⟨rs, nd', ps⟩ := t
      simp only at hrow hnx hput y0 y1 y2 hl12
      obtain ⟨l1, l2⟩ := hl12
      have q0 := World.ownsRow.cellAt hout'.1 (j * 3) (by omega)
      rw [y0] at q0
      rw [← hx.out] at hnx
      have hxn : x + ((n1 : Int) + 1 + 2 * (n2 : Int)) ≤ 2097152 := by have := hTT.out; omega
      have HNX := Lib.hid hnx
      have HD2 := Lib.hid hdr2
      have hm3 := htodo.le
      have hsz := htch.size
      clear hnx hle hdr2 e1 e1' hRj hXj hnd hv
      go_wp2_with fail
      refine (markIntS_any A1 n1 c1 m' rs (k + x) wr hrow.own (by omega) (by omega) l1).mono ?_
      rintro q w9 ⟨rfl, o9, g9⟩
      have t9 : Touch m' m2 wr w9 := Touch.of_grown g9 (fun i hi => ⟨(hrow.own.lt hi).1, hrow.2 i hi⟩)
      have hP9 : OwnP w9 m' A2 n2 c2 ps := OwnP.kept (show OwnP wr m' A2 n2 c2 ps from hput.1) g9 (fun i hi e' => by
        have := rows_ne (show OwnP wr m' A2 n2 c2 ps from hput.1) hrow.own (by decide) (k := i) (by rw [blk_own]; exact hi)
        rw [blk_own] at this; exact this e')
      have hout9 := Row.keep hout' (t9.same (by omega) (by omega))
      have q1 := World.ownsRow.cellAt hout9.1 (j * 3 + 1) (by omega)
      have q2 := World.ownsRow.cellAt hout9.1 (j * 3 + 2) (by omega)
      have p1 := World.ownsRow.frozenAt hout9.1 (j * 3 + 1)
      rw [y1] at q1
      rw [y2] at q2
      have z9 := t9.size
      clear q0 y0 y1 y2
      go_wp2_with fail
      have tS : Touch b e w9 (w9.setCell ⟨g, j * 3 + 1, none⟩ (.int .i64 (k + x + (n1 : Int)))) := Touch.of_grown (grown_set (p := ⟨g, j * 3 + 1, none⟩) (World.grownBy.refl w9 _) rfl _) (fun i hi => by have hi2 : g = i := Option.some.inj hi; omega)
      have hPS : OwnP (w9.setCell ⟨g, j * 3 + 1, none⟩ (.int .i64 (k + x + (n1 : Int)))) m' A2 n2 c2 ps := hP9.setCell (fun i hi e' => by have := (hP9.lt hi).1; simp only at e'; omega) _
      have hoS := (World.ownsRow.stored hout9.1 (j * 3 + 1) (.int .i64 (k + x + (n1 : Int)))).1
      rw [HST.out] at hoS
      have hrS : ∀ i, m2 ≤ i → i < e → (w9.setCell ⟨g, j * 3 + 1, none⟩ (.int .i64 (k + x + (n1 : Int)))).heap[i]? = w9.heap[i]? := fun i h1 h2 => Below.heap_setCell _ _ _ i (by simp only; omega)
      have zS : (w9.setCell ⟨g, j * 3 + 1, none⟩ (.int .i64 (k + x + (n1 : Int)))).heap.size = w9.heap.size := by simp
      generalize hWS : w9.setCell ⟨g, j * 3 + 1, none⟩ (.int .i64 (k + x + (n1 : Int))) = wS at tS hPS hoS hrS zS ⊢
      clear hWS q1 q2 p1
      refine (markPutS_t A2 n2 c2 m' ps (k + x + (n1 : Int) + 1) wS hPS (by omega) (by omega) l2).mono ?_
      rintro q wT ⟨rfl, gT⟩
      have tT : Touch m' m2 wS wT := Touch.of_grown gT (fun i hi => ⟨(hPS.lt hi).1, hput.2 i hi⟩)
      have zT := tT.size
      go_wp2_with fail
      go_roundw
      case rel =>
        refine ⟨j + 1, x + ((n1 : Int) + 1 + 2 * (n2 : Int)), m2, _, by omega, by go_num, by go_num, by omega, hxn, Lib.hid HNX.out.symm, Lib.hid ?_, by omega, Row.keep ⟨hoS, hout9.2⟩ (tT.same (by omega) (by omega)), ?_, ?_⟩
        · rw [List.drop_set_of_lt (by omega)]
          exact HD2.out
        · exact htodo.keep (fun i h1 h2 => (tT.block i (by omega) (by omega)).trans ((hrS i h1 h2).trans (t9.block i (by omega) (by omega))))
        · exact ((htch.step2 (t9.widen (by omega) (by omega))).step2 tS).step2 (tT.widen (by omega) (by omega))
      case measure => simp [intOf]; omega
    · obtain rfl : j = n := by omega
      have hxe := hx.out
      rw [List.take_of_length_le (by rw [hRl.out]; exact Nat.le_refl _)] at hxe
      subst hxe
      go_wp2
      go_ret
      exact ⟨rfl, htch⟩
end Go.Proofs.Ytaelaldgohppeaa
