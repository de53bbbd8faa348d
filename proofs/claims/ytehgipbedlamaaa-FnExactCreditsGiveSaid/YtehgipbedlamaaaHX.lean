/-
  Marks laid into credits of the call's own: markCredits; marks held.
-/
import Derived.Test.YtehgipbedlamaaaHW
namespace Go.Proofs.Ytehgipbedlamaaa
open Go.RowKit
set_option linter.unusedVariables false

/-- What marks leave in the senders' states, by the lengths of their sets. -/
def mkHs : Int → List Nat → List HX
  | _, [] => []
  | k, m :: L => ⟨marks k m, k + m⟩ :: mkHs (k + m + 1) L
def mkN : List Nat → Int
  | [] => 0
  | m :: L => (m : Int) + 1 + mkN L
theorem mkN_append (L M : List Nat) : mkN (L ++ M) = mkN L + mkN M := by
  induction L with
  | nil => simp [mkN]
  | cons m L ih => simp only [List.cons_append, mkN, ih]; omega
theorem mkN_nonneg (L : List Nat) : 0 ≤ mkN L := by
  induction L with
  | nil => simp [mkN]
  | cons m L ih => simp only [mkN]; omega
theorem mkN_take_le (L : List Nat) (k : Nat) : mkN (L.take k) ≤ mkN L := by
  have h := mkN_append (L.take k) (L.drop k)
  rw [List.take_append_drop] at h
  have := mkN_nonneg (L.drop k)
  omega
theorem mkHs_length (k : Int) (L : List Nat) : (mkHs k L).length = L.length := by
  induction L generalizing k with
  | nil => rfl
  | cons m L ih => simp [mkHs, ih]
theorem mkHs_append (k : Int) (L M : List Nat) : mkHs k (L ++ M) = mkHs k L ++ mkHs (k + mkN L) M := by
  induction L generalizing k with
  | nil => simp [mkHs, mkN]
  | cons m L ih => simp only [List.cons_append, mkHs, ih, mkN]; rw [show k + ↑m + 1 + mkN L = k + (↑m + 1 + mkN L) by omega]
def lensH (hs : List HX) : List Nat := hs.map fun h => h.has.length
/-- The senders' states when the first i are marked. -/
def mkAt (k : Int) (hs : List HX) (i : Nat) : List HX := mkHs k ((lensH hs).take i) ++ hs.drop i
theorem mkAt_zero (k : Int) (hs : List HX) : mkAt k hs 0 = hs := by simp [mkAt, mkHs]
theorem mkAt_all (k : Int) (hs : List HX) : mkAt k hs hs.length = mkHs k (lensH hs) := by
  unfold mkAt
  rw [List.take_of_length_le (by simp [lensH]), List.drop_length, List.append_nil]
theorem mkAt_get (k : Int) (hs : List HX) (i : Nat) (hi : i < hs.length) : (mkAt k hs i)[i]? = hs[i]? := by
  have hl : (mkHs k ((lensH hs).take i)).length = i := by rw [mkHs_length, List.length_take]; simp [lensH]; omega
  unfold mkAt
  rw [List.getElem?_append_right (by omega), hl, Nat.sub_self, List.getElem?_drop, Nat.add_zero]
theorem mkAt_set (k : Int) (hs : List HX) (i : Nat) {h : HX} (hi : hs[i]? = some h) : (mkAt k hs i).set i ⟨marks (k + mkN ((lensH hs).take i)) h.has.length, k + mkN ((lensH hs).take i) + h.has.length⟩ = mkAt k hs (i + 1) ∧
    mkN ((lensH hs).take (i + 1)) = mkN ((lensH hs).take i) + h.has.length + 1 := by
  have hil := (List.getElem?_eq_some_iff.1 hi).1
  have he := (List.getElem?_eq_some_iff.1 hi).2
  have hl : (mkHs k ((lensH hs).take i)).length = i := by rw [mkHs_length, List.length_take]; simp [lensH]; omega
  have ht : (lensH hs).take (i + 1) = (lensH hs).take i ++ [h.has.length] := by
    rw [List.take_succ_eq_append_getElem (by simpa [lensH] using hil)]
    simp [lensH, he]
  refine ⟨?_, ?_⟩
  · unfold mkAt
    rw [ht, mkHs_append, List.set_append_right _ _ (by omega), hl, Nat.sub_self, List.drop_eq_getElem_cons hil, List.set_cons_zero, List.append_assoc]
    rfl
  · rw [ht, mkN_append]; simp [mkN]; omega
/-- A block that is a row of these credits. -/
def IsRow (F A : Option Addr) (R : List HR) (j : Nat) : Prop := blk F = some j ∨ blk A = some j ∨ ∃ (k : Nat) (r : HR), R[k]? = some r ∧ blk r.A = some j
/-- Only blocks of P have been written. -/
structure Wrote (P : Nat → Prop) (w w' : World) : Prop where
  os : w'.os = w.os
  tape : w'.tape = w.tape
  output : w'.output = w.output
  size : w.heap.size ≤ w'.heap.size
  block : ∀ j, j < w.heap.size → ¬ P j → w'.heap[j]? = w.heap[j]?
theorem Wrote.refl (P : Nat → Prop) (w : World) : Wrote P w w := ⟨rfl, rfl, rfl, Nat.le_refl _, fun _ _ _ => rfl⟩
theorem Wrote.trans {P : Nat → Prop} {a b c : World} (h : Wrote P a b) (h' : Wrote P b c) : Wrote P a c :=
  ⟨h'.os.trans h.os, h'.tape.trans h.tape, h'.output.trans h.output, Nat.le_trans h.size h'.size, fun j hj hp => (h'.block j (Nat.lt_of_lt_of_le hj h.size) hp).trans (h.block j hj hp)⟩
theorem Wrote.of_grown {P : Nat → Prop} {w w' : World} {row : Option Nat} (h : w.grownBy w' row) (hp : ∀ j, row = some j → P j) : Wrote P w w' :=
  ⟨h.os, h.tape, h.output, h.size, fun j hj hn => h.block j hj (fun e => hn (hp j e.symm))⟩
theorem Wrote.of_below {P : Nat → Prop} {w w' : World} (h : Below w.heap.size w w') : Wrote P w w' := ⟨h.os, h.tape, h.output, h.size, fun j hj _ => h.block j hj⟩
section
variable {w w' : World} {base nf cf n c s : Nat} {F A : Option Addr} {R : List HR} {cx : CX} {r : HR} {t : HX}
/-- A sender's set is written where it lies. -/
theorem OwnC.inner {ys : List Int} (h : OwnC w base F nf cf A n c R cx) (hr : R[s]? = some r) (ht : cx.holds[s]? = some t) (hg : w.grownBy w' (blk r.A)) (ho : Own w' base r.A r.n r.c ys) : OwnC w' base F nf cf A n c R ⟨cx.free, cx.holds.set s ⟨ys, t.wait⟩⟩ := by
  have hsl : s < cx.holds.length := (List.getElem?_eq_some_iff.1 ht).1
  refine ⟨h.f.kept hg (fun k hk e => h.e s r k hr e hk), World.ownsRow.kept h.o hg ?_, by simp [h.l], fun k q u hq hu => ?_, h.d, h.e⟩
  · cases hb : blk r.A with
    | none =>
      cases hA : (Value.slice A n c).ownBlock with
      | none => exact .inl rfl
      | some g => exact .inr (by simp)
    | some g =>
      have := own_ne_own (h.i s r t hr ht).1 h.o (by decide) (k := g) (by rw [blk_own]; exact hb)
      exact .inr this
  · simp only at hu
    rw [List.getElem?_set] at hu
    split at hu
    · rename_i e
      subst e
      first | rw [if_pos hsl] at hu | skip
      injection hu with hu
      subst hu
      rw [hr] at hq
      injection hq with hq
      subst hq
      exact ⟨ho, (h.i s r t hr ht).2⟩
    · rename_i e
      obtain ⟨a, b⟩ := h.i k q u hq hu
      exact ⟨a.kept hg (fun x hx e2 => h.d k s q r x (fun e3 => e e3.symm) hq hr hx e2), b⟩
/-- The free credits are written where they lie. -/
theorem OwnC.free' {ys : List Int} (h : OwnC w base F nf cf A n c R cx) (hg : w.grownBy w' (blk F)) (ho : Own w' base F nf cf ys) : OwnC w' base F nf cf A n c R ⟨ys, cx.holds⟩ := by
  refine ⟨ho, World.ownsRow.kept h.o hg ?_, h.l, fun k q u hq hu => ?_, h.d, h.e⟩
  · cases hb : blk F with
    | none =>
      cases hA : (Value.slice A n c).ownBlock with
      | none => exact .inl rfl
      | some g => exact .inr (by simp)
    | some g =>
      have := own_ne_own h.f h.o (by decide) (k := g) (by rw [blk_own]; exact hb)
      exact .inr this
  · obtain ⟨a, b⟩ := h.i k q u hq hu
    exact ⟨a.kept hg (fun x hx e2 => h.e k q x hq hx e2), b⟩
/-- Credits none of whose rows has been written. -/
theorem OwnC.wrote {P : Nat → Prop} (h : OwnC w base F nf cf A n c R cx) (hw : Wrote P w w') (hp : ∀ j, IsRow F A R j → ¬ P j) : OwnC w' base F nf cf A n c R cx := by
  have key : ∀ {B : Option Addr} {m d : Nat} {xs : List Int}, (∀ j, blk B = some j → ¬ P j) → Own w base B m d xs → Own w' base B m d xs := fun {B m d xs} hj ho => by
    obtain ⟨h1, h2⟩ := ho
    refine ⟨h1, ?_⟩
    rcases h2 with h2 | ⟨q, cap, cur, hv, hb, hh, hn, hm, hs, htk⟩
    · exact .inl h2
    · injection hv with e1 e2 e3
      have hlt : q < w.heap.size := by rw [Array.getElem?_eq_some_iff] at hh; exact hh.1
      exact .inr ⟨q, cap, cur, by rw [e1, e3], hb, (hw.block q hlt (hj q (by rw [e1]; rfl))).trans hh, hn, hm, hs, htk⟩
  refine ⟨key (fun j hj => hp j (.inl hj)) h.f, ?_, h.l, fun k r t hr ht => ⟨key (fun j hj => hp j (.inr (.inr ⟨k, r, hr, hj⟩))) (h.i k r t hr ht).1, (h.i k r t hr ht).2⟩, h.d, h.e⟩
  obtain ⟨h1, h2⟩ := h.o
  refine ⟨h1, ?_⟩
  rcases h2 with h2 | ⟨q, cap, cur, hv, hb, hh, hn, hm, hs, htk⟩
  · exact .inl h2
  · injection hv with e1 e2 e3
    have hlt : q < w.heap.size := by rw [Array.getElem?_eq_some_iff] at hh; exact hh.1
    exact .inr ⟨q, cap, cur, by rw [e1, e3], hb, (hw.block q hlt (hp q (.inr (.inl (by rw [e1]; rfl))))).trans hh, hn, hm, hs, htk⟩
end
set_option maxHeartbeats 4000000 in
theorem markHS_any (F A : Option Addr) (nf cf n c base : Nat) (R : List HR) (cx : CX) (k : Int) (w : World) (ho : OwnC w base F nf cf A n c R cx) (h0 : 0 ≤ k) (hk : k ≤ 2097152) (hT : mkN (lensH cx.holds) ≤ 4194304) (hn : n ≤ 1048576) :
    Calls Try.prog 54 #[.slice A n c, .int .i64 k] w fun e w' => e = .returned (.int .i64 (k + mkN (lensH cx.holds))) ∧ ∃ R', OwnC w' base F nf cf A n c R' ⟨cx.free, mkHs k (lensH cx.holds)⟩ ∧ Wrote (IsRow F A R) w w' ∧ ∀ j, IsRow F A R' j → IsRow F A R j := by
  have HLn := Lib.hid ho.l
  have t0 := mkN_nonneg (lensH cx.holds)
  go_enter Try.func54, Try.ntmps54
  go_wp2_with fail
  go_loopw [1, 5] (fun q i wr => ∃ (j : Nat) (x : Int) (S : List HR), j ≤ n ∧ i = .int .i64 j ∧ q = .int .i64 (k + x) ∧ 0 ≤ x ∧ x ≤ 4194304 ∧ Hid (x = mkN ((lensH cx.holds).take j)) ∧ OwnC wr base F nf cf A n c S ⟨cx.free, mkAt k cx.holds j⟩ ∧ Wrote (IsRow F A R) w wr ∧ Hid (∀ (p : Nat) (r' : HR), S[p]? = some r' → ∃ r : HR, R[p]? = some r ∧ r'.A = r.A)) (fun _ i _ => n - (intOf i).toNat)
  case atStart => exact ⟨0, 0, R, Nat.zero_le _, rfl, by simp, by omega, by omega, Lib.hid (by simp [mkN]), by rw [mkAt_zero]; exact ho, Wrote.refl _ _, Lib.hid (fun p r' h => ⟨r', h, rfl⟩)⟩
  case round =>
    obtain ⟨j, x, S, hj, rfl, rfl, hx0, hx1, hx, o, hw, hS⟩ := hrel
    by_cases hlt : j < n
    · obtain ⟨gA, rfl, hgA, -⟩ := o.form (by omega)
      obtain ⟨A1, n1, c1, v, xs, o1, hn1, hc0, hc1, hz0, hz1, hR1, hk1, -⟩ := o.cells hlt
      have gj : (j : Int) < (n : Int) := by omega
      have hkk : cx.holds[j]? = some ⟨xs, v⟩ := by rw [← mkAt_get k cx.holds j (by rw [HLn.out]; exact hlt)]; exact hk1.out
      have HST := Lib.hid (mkAt_set k cx.holds j hkk)
      have HL1 := Lib.hid o1.len
      have hle : x + (n1 : Int) + 1 ≤ 4194304 := by
        have h1 := HST.out.2
        have h2 := mkN_take_le (lensH cx.holds) (j + 1)
        have h3 := hx.out
        have h4 := HL1.out
        simp only at h1
        omega
      have hw1 : IntKind.i64.wrap (k + x + (n1 : Int) + 1) = k + x + (n1 : Int) + 1 := IntWalk.i64_in _ (by omega)
      obtain ⟨r0, hr0, hrA⟩ := hS.out j _ hR1.out
      have HRr := Lib.hid hr0
      simp only at hrA
      have HRA := Lib.hid hrA
      clear hrA hr0 hkk
      go_wp2_with fail
      refine (markIntS_any A1 n1 c1 base xs (k + x) wr o1 (by omega) (by omega) hn1).mono ?_
      rintro e w9 ⟨rfl, o9, hg9⟩
      have oi := o.inner hR1.out hk1.out hg9 o9
      have hwi := hw.trans (Wrote.of_grown hg9 (fun g hg => .inr (.inr ⟨j, r0, HRr.out, by rw [← HRA.out]; exact hg⟩)))
      obtain ⟨A8, n8, c8, v8, xs8, o8, hn8, g0, g1, y0, y1, hR8, hk8, -⟩ := oi.cells hlt
      have hjl : j < (mkAt k cx.holds j).length := (List.getElem?_eq_some_iff.1 hk1.out).1
      have ow := oi.setWait hR8.out hk8.out (k + x + n1)
      have hww := hwi.trans (Wrote.of_grown (grow_set w9 gA (j * 2 + 1) (.int .i64 (k + x + n1))) (fun g hg => by injection hg with hg; subst hg; exact .inr (.inl rfl)))
      have HNX := Lib.hid (show OwnC (w9.setCell ⟨gA, j * 2 + 1, none⟩ (.int .i64 (k + x + n1))) base F nf cf (some ⟨gA, 0, none⟩) n c _ ⟨cx.free, mkAt k cx.holds (j + 1)⟩ from by
        have hk8' := hk8.out
        simp only at hk8'
        rw [List.getElem?_set, if_pos rfl] at hk8'
        first | rw [if_pos hjl] at hk8' | skip
        injection hk8' with hk8'
        injection hk8' with e1 e2
        have h1 := HST.out.1
        rw [← hx.out] at h1
        simp only [HL1.out] at h1
        have h2 := ow
        simp only [List.set_set] at h2
        rw [← e1, h1] at h2
        exact h2)
      have hS2 := Lib.hid (show ∀ (p : Nat) (r' : HR), (S.set j ⟨A8, n8, c8, k + x + n1⟩)[p]? = some r' → ∃ r : HR, R[p]? = some r ∧ r'.A = r.A from fun p r' hp => by
        rw [List.getElem?_set] at hp
        split at hp
        · rename_i e
          subst e
          split at hp
          · injection hp with hp
            subst hp
            refine ⟨r0, HRr.out, ?_⟩
            have h1 := hR8.out
            rw [hR1.out] at h1
            injection h1 with h1
            injection h1 with h1
            rw [← HRA.out, h1]
          · cases hp
        · exact hS.out p r' hp)
      clear hc0 hc1 hz0 hz1 ow hk1 hjl oi hwi
      go_wp2_with fail
      go_roundw
      case rel => exact ⟨j + 1, x + (n1 : Int) + 1, _, by omega, by go_num, by go_num, by omega, by omega, Lib.hid (by rw [HST.out.2, hx.out, HL1.out]), HNX.out, hww, hS2⟩
      case measure => first | (simp [intOf]; done) | (simp [intOf]; omega)
    · obtain rfl : n = j := by omega
      have hxe : x = mkN (lensH cx.holds) := by have h := hx.out; rwa [List.take_of_length_le (by simp [lensH]; rw [HLn.out]; exact Nat.le_refl _)] at h
      subst hxe
      have hall : mkAt k cx.holds n = mkHs k (lensH cx.holds) := by rw [← HLn.out]; exact mkAt_all _ _
      rw [hall] at o
      go_wp2_with fail
      go_ret
      exact ⟨rfl, S, o, hw, fun g hg => by
        rcases hg with hg | hg | ⟨p, r', hp, hg⟩
        · exact .inl hg
        · exact .inr (.inl hg)
        · obtain ⟨r, hr, e⟩ := hS.out p r' hp
          exact .inr (.inr ⟨p, r, hr, by rw [← e]; exact hg⟩)⟩
end Go.Proofs.Ytehgipbedlamaaa
