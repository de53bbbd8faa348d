/-
  The reader of codes: what a reader in memory is; opening one; a pick. Only the range of a pick is told.
-/
import Derived.Test.YtehgipbedlamaaaLists
import Derived.Test.YtehgipbedlamaaaOpen
import Derived.Deep.QuietTactic
import Derived.BigQuiet
import Derived.Laws.BitsAllLaws
import Derived.Laws.BitsLemmas
namespace Go.Proofs.Ytehgipbedlamaaa
open Go.RowKit
set_option linter.unusedVariables false

/-- Block g holds a reader at place p over bytes below block B. -/
def Rdr (w : World) (B g : Nat) (p : Int) : Prop :=
  ∃ A n c bs, Blk w g 75 #[.slice A n c, .int .i64 p] ∧ B ≤ g ∧ n ≤ 2000 ∧ n ≤ c ∧ Bytes w B A n bs

theorem Bytes.at_ {w : World} {B : Nat} {A : Option Addr} {n : Nat} {bs : List Int} (h : Bytes w B A n bs) {k : Nat} (hk : k < n) : ∃ (ad : Addr) (b : Int), A = some ad ∧ ad.block < B ∧ w.cell? (ad.add k) = some (.int .u8 b) ∧ 0 ≤ b ∧ b < 256 := by
  obtain ⟨ad, u, hA, hb, hx, hc⟩ := Reads.at_ h.1 hk
  rw [List.getElem?_map] at hx
  cases hb' : bs[k]? with
  | none => rw [hb'] at hx; cases hx
  | some b =>
    rw [hb'] at hx
    injection hx with hx
    have := h.2 b (List.mem_of_getElem? hb')
    exact ⟨ad, b, hA, hb, hc.trans (by rw [hx]), this.1, this.2⟩
theorem Bytes.keep {w w' : World} {B : Nat} {A : Option Addr} {n : Nat} {bs : List Int} (h : Bytes w B A n bs) (hk : ∀ q : Addr, q.block < B → w'.cell? q = w.cell? q) : Bytes w' B A n bs := ⟨Reads.keep h.1 hk, h.2⟩

theorem ofInt_i64 (a : Nat) (ha : a < 9223372036854775808) : (BitVec.ofInt 64 (a : Int)).toNat = a := by
  rw [BitVec.ofInt_natCast, BitVec.toNat_ofNat]; exact Nat.mod_eq_of_lt (by omega)
theorem i64_xor_nat (a b : Nat) (ha : a < 9223372036854775808) (hb : b < 9223372036854775808) : bits .xor .i64 (a : Int) (b : Int) = ((a ^^^ b : Nat) : Int) := by
  have hx : a ^^^ b < 2 ^ 63 := Nat.xor_lt_two_pow (by omega) (by omega)
  show IntKind.i64.wrap ((BitVec.ofInt 64 (a : Int) ^^^ BitVec.ofInt 64 (b : Int)).toNat : Int) = _
  rw [BitVec.toNat_xor, ofInt_i64 a ha, ofInt_i64 b hb, IntKind.wrap_i64]
  omega
theorem xor_range (a b : Int) (h0 : 0 ≤ a) (h1 : a < 9223372036854775808) (h2 : 0 ≤ b) (h3 : b < 9223372036854775808) : 0 ≤ bits .xor .i64 a b ∧ bits .xor .i64 a b < 9223372036854775808 := by
  obtain ⟨m, rfl⟩ := Int.eq_ofNat_of_zero_le h0
  obtain ⟨n, rfl⟩ := Int.eq_ofNat_of_zero_le h2
  rw [i64_xor_nat m n (by omega) (by omega)]
  have : m ^^^ n < 2 ^ 63 := Nat.xor_lt_two_pow (by omega) (by omega)
  omega

theorem far_set {w : World} {g i : Nat} {q : Addr} {x : Value} (h : w.cell? q = some x) (hne : q.block ≠ g) (u : Value) : (w.setCell ⟨g, i, none⟩ u).cell? q = some x :=
  (World.cell?_setCell_other w _ q u (fun e => hne (by rw [← e]))).trans h

/-- What a pick leaves. -/
def Picked (n p : Int) (B g : Nat) (w : World) (e : Ending) (w' : World) : Prop :=
  ∃ v, e = .returned (.int .i64 v) ∧ 0 ≤ v ∧ (1 ≤ n → v < n) ∧ (n < 1 → v = 0) ∧ Rdr w' B g (p + 1) ∧ w.grownBy w' (some g) ∧ w'.heap.size = w.heap.size

theorem picked_mk {n p v : Int} {B g d : Nat} {w : World} {A : Option Addr} {m c : Nat} {bs : List Int} (hblk : Blk w g 75 #[.slice A m c, .int .i64 p]) (hB : B ≤ g) (hm : m ≤ 2000) (hmc : m ≤ c) (hbs : Bytes w B A m bs)
    (h0 : 0 ≤ v) (h1 : 1 ≤ n → v < n) (h2 : n < 1 → v = 0) : Picked n p B g w (.returned (.int .i64 v)) ((w.setCell ⟨g, 1, none⟩ (.int .i64 (p + 1))).drewN d) := by
  refine ⟨v, rfl, h0, h1, h2, ⟨A, m, c, bs, hblk.set_ 1 _, hB, hm, hmc, hbs.keep fun q hq => ?_⟩, ⟨rfl, rfl, rfl, by simp, fun i _ hi => Below.heap_setCell w _ _ i (fun e => hi (by rw [e]))⟩, by simp⟩
  exact World.cell?_setCell_other w _ q _ (fun e => by subst e; simp at hq; omega)

set_option maxHeartbeats 1000000 in
theorem pick_any (B g : Nat) (p n : Int) (w : World) (hr : Rdr w B g p) (hp0 : 0 ≤ p) (hp1 : p ≤ 1073741824) (hn : n ≤ 1048576) :
    Calls Try.prog 32 #[.pointer (some ⟨g, 0, none⟩), .int .i64 n] w (Picked n p B g w) := by
  obtain ⟨A, m, c, bs, hblk, hB, hm, hmc, hbs⟩ := hr
  have f := hblk.two
  have hfin := fun (v : Int) (d : Nat) => picked_mk (n := n) (v := v) (d := d) hblk hB hm hmc hbs
  have HF := Lib.hid hfin
  clear hfin hblk
  by_cases h1 : n < 1
  · go_enter Try.func32, Try.ntmps32
    go_wp2
    go_ret
    exact HF.out 0 0 (by omega) (by omega) (by omega)
  have hn1 : 1 ≤ n := by omega
  clear h1
  by_cases h2 : m = 0
  · subst h2
    go_enter Try.func32, Try.ntmps32
    go_wp2
    go_ret
    exact HF.out 0 0 (by omega) (by omega) (by omega)
  have h2' : ((m : Int) == 0) = false := by simp; omega
  by_cases h3 : p < m
  · obtain ⟨k, rfl⟩ := Int.eq_ofNat_of_zero_le hp0
    obtain ⟨ad, b, rfl, hb, hc, hb0, hb1⟩ := hbs.at_ (k := k) (by omega)
    have hc' := fun u => far_set (g := g) (i := 1) hc (by rw [block_of_add]; omega) u
    go_enter Try.func32, Try.ntmps32
    go_wp2
    have hlt := Int.emod_lt_of_pos b (show 0 < n by omega)
    have hge := Int.emod_nonneg b (show n ≠ 0 by omega)
    go_ret
    exact HF.out (b % n) 0 hge (fun _ => hlt) (by omega)
  · obtain ⟨k, rfl⟩ := Int.eq_ofNat_of_zero_le hp0
    have hm0 : 0 < m := by omega
    obtain ⟨i1, hi1, t1⟩ : ∃ i1 : Nat, i1 < m ∧ (k : Int).tmod (m : Int) = (i1 : Int) := ⟨k % m, Nat.mod_lt _ hm0, by rw [Int.tmod_eq_emod_of_nonneg (by omega)]; rfl⟩
    obtain ⟨i2, hi2, t2⟩ : ∃ i2 : Nat, i2 < m ∧ ((k : Int) * 7 + 3).tmod (m : Int) = (i2 : Int) := ⟨(k * 7 + 3) % m, Nat.mod_lt _ hm0, by rw [Int.tmod_eq_emod_of_nonneg (by omega)]; rfl⟩
    obtain ⟨j, hj, t3⟩ : ∃ j : Nat, j ≤ 1073741824 ∧ (k : Int) / (m : Int) = (j : Int) := ⟨k / m, by have := Nat.div_le_self k m; omega, rfl⟩
    obtain ⟨ad, b, hA, hb, hc, hb0, hb1⟩ := hbs.at_ hi1
    subst hA
    obtain ⟨ad', b', hA', hb', hc2, hb2, hb3⟩ := hbs.at_ hi2
    obtain rfl : ad = ad' := by injection hA'
    have hc' := fun u => far_set (g := g) (i := 1) hc (by rw [block_of_add]; omega) u
    have hc2' := fun u => far_set (g := g) (i := 1) hc2 (by rw [block_of_add]; omega) u
    go_enter Try.func32, Try.ntmps32
    go_wp2
    go_quiet (fail)
    clear t1 t2 t3
    have hx := xor_range (b * 131 + b' * 1117 + k * 29 + j * 53) ((b * 131 + b' * 1117 + k * 29 + j * 53) / 64) (by omega) (by omega) (by omega) (by omega)
    obtain ⟨hx0, hx1⟩ := hx
    go_wp2
    go_ret
    refine HF.out _ _ ?_ (fun _ => ?_) (fun _ => by omega)
    · exact Int.emod_nonneg _ (by omega)
    · exact Int.emod_lt_of_pos _ (by omega)

/-- What opening a code leaves. -/
def Opened (w : World) (e : Ending) (w' : World) : Prop :=
  ∃ g, e = .returned (.pointer (some ⟨g, 0, none⟩)) ∧ Rdr w' w.heap.size g 0 ∧ g < w'.heap.size ∧ Below w.heap.size w w'

theorem open_mk {w : World} {A : Option Addr} {n c : Nat} {bs : List Int} (hn : n ≤ 2000) (hc : n ≤ c) (hb : Bytes w w.heap.size A n bs) : Opened w (.returned (.pointer (some ⟨w.heap.size, 0, none⟩))) (w.alloc (.cells #[.slice A n c, .int .i64 0] 75)) :=
  ⟨w.heap.size, rfl, ⟨A, n, c, bs, Blk.new _ _ _, Nat.le_refl _, hn, hc, hb.keep fun q hq => World.cell?_alloc_lt w _ q (by omega)⟩, by simp, (Below.refl _ _).alloc (Nat.le_refl _) _⟩

theorem Bytes.take {w : World} {B : Nat} {A : Option Addr} {n : Nat} {bs : List Int} (h : Bytes w B A n bs) {k : Nat} (hk : k ≤ n) : Bytes w B A k (bs.take k) := by
  obtain ⟨⟨h1, h2⟩, h3⟩ := h
  have hl : bs.length = n := by simpa using h1
  refine ⟨⟨by simp [hl]; omega, fun h0 => ?_⟩, fun b hb => h3 b (List.mem_of_mem_take hb)⟩
  obtain ⟨ad, hA, hb, hc⟩ := h2 (by omega)
  refine ⟨ad, hA, hb, fun j u hu => hc j u ?_⟩
  rw [List.map_take, List.getElem?_take] at hu
  split at hu
  · exact hu
  · cases hu

theorem open_any (A : Option Addr) (n c : Nat) (bs : List Int) (w : World) (hb : Bytes w w.heap.size A n bs) (hn : n ≤ 1048576) (hc : n ≤ c) (hc' : c ≤ 9223372036854775807) :
    Calls Try.prog 30 #[.slice A n c] w (Opened w) := by
  by_cases h : 2000 < n
  · have hfin := Lib.hid (open_mk (A := A) (n := 2000) (c := c) (Nat.le_refl _) (by omega) (hb.take (k := 2000) (by omega)))
    go_enter Try.func30, Try.ntmps30
    go_wp2
    go_ret
    exact hfin.out
  · have hfin := Lib.hid (open_mk (A := A) (n := n) (c := c) (by omega) hc hb)
    go_enter Try.func30, Try.ntmps30
    go_wp2
    go_ret
    exact hfin.out

/-- A pick of n ways, n at least 1. -/
def PickedPos (n p : Int) (B g : Nat) (w : World) (e : Ending) (w' : World) : Prop :=
  ∃ v, e = .returned (.int .i64 v) ∧ 0 ≤ v ∧ v < n ∧ Rdr w' B g (p + 1) ∧ w.grownBy w' (some g) ∧ w'.heap.size = w.heap.size ∧ Below g w w'
theorem pick_pos (B g : Nat) (p n : Int) (w : World) (hr : Rdr w B g p) (hp0 : 0 ≤ p) (hp1 : p ≤ 1073741824) (hn1 : 1 ≤ n) (hn : n ≤ 1048576) :
    Calls Try.prog 32 #[.pointer (some ⟨g, 0, none⟩), .int .i64 n] w (PickedPos n p B g w) := by
  refine (pick_any B g p n w hr hp0 hp1 hn).mono ?_
  rintro e w' ⟨v, rfl, h0, h1, _, h3, h4, h5⟩
  exact ⟨v, rfl, h0, h1 hn1, h3, h4, h5, ⟨h4.os, h4.tape, h4.output, h4.size, fun k hk => by
    by_cases hlt : k < w.heap.size
    · exact h4.block k hlt (fun e => by injection e; omega)
    · rw [Array.getElem?_eq_none (by omega), Array.getElem?_eq_none (by omega)]⟩⟩

end Go.Proofs.Ytehgipbedlamaaa
