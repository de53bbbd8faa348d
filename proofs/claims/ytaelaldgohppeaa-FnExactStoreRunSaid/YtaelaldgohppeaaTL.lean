/-
  The plain laws of transactions: what performing one, and a list of them, comes to. No program in sight.
-/
import Derived.Test.YtaelaldgohppeaaVL
import Derived.Test.YtaelaldgohppeaaS1
namespace Go.Proofs.Ytaelaldgohppeaa
set_option linter.unusedVariables false

/-- A transaction as plain data. -/
structure TX where
  reads : List Int
  need : Int
  puts : List (Int × Int)

def pkeys (ps : List (Int × Int)) : List Int := ps.map Prod.fst
theorem pkeys_len (ps : List (Int × Int)) : (pkeys ps).length = ps.length := by simp [pkeys]
theorem mem_pkeys {ps : List (Int × Int)} {p : Int × Int} (h : p ∈ ps) : p.1 ∈ pkeys ps := List.mem_map.2 ⟨p, h, rfl⟩
/-- Different keys in order. -/
def keysB (xs : List Int) : Bool := ascB xs && inR xs 0 14
def addsB (ps : List (Int × Int)) : Bool := ps.all fun p => inB p.2 (-999) 999
/-- A transaction is valid. -/
def tvB (t : TX) : Bool := keysB t.reads && keysB (pkeys t.puts) && decide (0 < t.reads.length + t.puts.length) && inB t.need 0 14985 && addsB t.puts

theorem sorted_len' : ∀ (b : Nat) {hi : Int} {xs : List Int}, (∀ x ∈ xs, hi - (b : Int) < x ∧ x ≤ hi) → xs.Pairwise (· < ·) → xs.length ≤ b
  | 0, hi, [], _, _ => by simp
  | 0, hi, x :: xs, h, _ => by have := h x (by simp); omega
  | b + 1, hi, [], _, _ => by simp
  | b + 1, hi, x :: xs, h, hp => by
    rw [List.pairwise_cons] at hp
    have := sorted_len' b (hi := hi) (xs := xs) (fun y hy => by have := hp.1 y hy; have := h x (by simp); have := h y (by simp [hy]); omega) hp.2
    simp; omega
theorem keys_iff {xs : List Int} (h : keysB xs = true) : (∀ x ∈ xs, 0 ≤ x ∧ x ≤ 14) ∧ xs.Pairwise (· < ·) := by
  simp only [keysB, Bool.and_eq_true] at h
  exact ⟨inR_iff.1 h.2, pairwise_of_asc h.1⟩
theorem keys_mk {xs : List Int} (h : ∀ x ∈ xs, 0 ≤ x ∧ x ≤ 14) (hp : xs.Pairwise (· < ·)) : keysB xs = true := by
  simp only [keysB, Bool.and_eq_true]
  exact ⟨asc_of_pairwise hp, inR_iff.2 h⟩
theorem keys_len {xs : List Int} (h : keysB xs = true) : xs.length ≤ 15 :=
  sorted_len' 15 (hi := 14) (fun x hx => by have := (keys_iff h).1 x hx; omega) (keys_iff h).2
theorem keys_nil : keysB [] = true := rfl
structure Tv (t : TX) : Prop where
  r : keysB t.reads = true
  p : keysB (pkeys t.puts) = true
  l : 0 < t.reads.length + t.puts.length
  n0 : 0 ≤ t.need
  n9 : t.need ≤ 14985
  a : ∀ p ∈ t.puts, -999 ≤ p.2 ∧ p.2 ≤ 999
theorem tv_iff {t : TX} : tvB t = true ↔ Tv t := by
  simp only [tvB, addsB, inB, Bool.and_eq_true, decide_eq_true_eq, List.all_eq_true]
  constructor
  · rintro ⟨⟨⟨⟨h1, h2⟩, h3⟩, h4⟩, h5⟩
    exact ⟨h1, h2, h3, h4.1, h4.2, h5⟩
  · rintro ⟨h1, h2, h3, h4, h4', h5⟩
    exact ⟨⟨⟨⟨h1, h2⟩, h3⟩, h4, h4'⟩, h5⟩
theorem Tv.rl {t : TX} (h : Tv t) : t.reads.length ≤ 15 := keys_len h.r
theorem Tv.pl {t : TX} (h : Tv t) : t.puts.length ≤ 15 := by rw [← pkeys_len]; exact keys_len h.p
theorem Tv.rk {t : TX} (h : Tv t) : ∀ x ∈ t.reads, 0 ≤ x ∧ x ≤ 14 := (keys_iff h.r).1
theorem Tv.pk {t : TX} (h : Tv t) : ∀ p ∈ t.puts, 0 ≤ p.1 ∧ p.1 ≤ 14 := fun p hp => (keys_iff h.p).1 _ (mem_pkeys hp)

/-- What the puts add to a key: the last one's number. -/
def dFold (d : Int) (ps : List (Int × Int)) (k : Int) : Int := ps.foldl (fun d p => if p.1 = k then p.2 else d) d
def dOf (ps : List (Int × Int)) (k : Int) : Int := dFold 0 ps k
theorem dOf_snoc (ps : List (Int × Int)) (p : Int × Int) (k : Int) : dOf (ps ++ [p]) k = if p.1 = k then p.2 else dOf ps k := by simp [dOf, dFold, List.foldl_append]
theorem dFold_not : ∀ {ps : List (Int × Int)} {k d : Int}, k ∉ pkeys ps → dFold d ps k = d
  | [], _, _, _ => rfl
  | p :: ps, k, d, h => by
    simp only [pkeys, List.map_cons, List.mem_cons, not_or] at h
    show dFold (if p.1 = k then p.2 else d) ps k = d
    rw [if_neg (fun e => h.1 e.symm)]
    exact dFold_not h.2
theorem dOf_not {ps : List (Int × Int)} {k : Int} (h : k ∉ pkeys ps) : dOf ps k = 0 := dFold_not h
theorem dFold_mem : ∀ {ps : List (Int × Int)} {p : Int × Int} {d : Int}, (pkeys ps).Pairwise (· < ·) → p ∈ ps → dFold d ps p.1 = p.2
  | [], _, _, _, h => by cases h
  | q :: qs, p, d, hp, h => by
    simp only [pkeys, List.map_cons, List.pairwise_cons] at hp
    show dFold (if q.1 = p.1 then q.2 else d) qs p.1 = p.2
    rcases List.mem_cons.1 h with e | e
    · subst e
      rw [if_pos rfl]
      exact dFold_not (fun hm => by have := hp.1 _ hm; omega)
    · exact dFold_mem hp.2 e
theorem dOf_mem {ps : List (Int × Int)} {p : Int × Int} (h : (pkeys ps).Pairwise (· < ·)) (hp : p ∈ ps) : dOf ps p.1 = p.2 := dFold_mem h hp
theorem dOf_cases {ps : List (Int × Int)} (h : (pkeys ps).Pairwise (· < ·)) (k : Int) : (k ∉ pkeys ps ∧ dOf ps k = 0) ∨ ∃ p ∈ ps, p.1 = k ∧ dOf ps k = p.2 := by
  by_cases hk : k ∈ pkeys ps
  · obtain ⟨p, hp, rfl⟩ := List.mem_map.1 hk
    exact .inr ⟨p, hp, rfl, dOf_mem h hp⟩
  · exact .inl ⟨hk, dOf_not hk⟩

/-- A state with puts added, as the program lays it. -/
def putL (st : List Int) (ps : List (Int × Int)) : List Int := ps.foldl (fun o p => o.set p.1.toNat (st.getD p.1.toNat 0 + p.2)) st
theorem putL_snoc (st : List Int) (ps : List (Int × Int)) (p : Int × Int) : putL st (ps ++ [p]) = (putL st ps).set p.1.toNat (st.getD p.1.toNat 0 + p.2) := by simp [putL, List.foldl_append]
theorem putF_get (st : List Int) (k : Nat) (hk : k < st.length) : ∀ (ps : List (Int × Int)) (o : List Int) (d : Int), (∀ p ∈ ps, 0 ≤ p.1) → o.length = st.length → o.getD k 0 = st.getD k 0 + d →
    (ps.foldl (fun o p => o.set p.1.toNat (st.getD p.1.toNat 0 + p.2)) o).length = st.length ∧ (ps.foldl (fun o p => o.set p.1.toNat (st.getD p.1.toNat 0 + p.2)) o).getD k 0 = st.getD k 0 + dFold d ps k
  | [], o, d, _, hl, h => ⟨hl, h⟩
  | p :: ps, o, d, hp, hl, h => by
    refine putF_get st k hk ps _ (if p.1 = (k : Int) then p.2 else d) (fun q hq => hp q (by simp [hq])) (by simpa using hl) ?_
    have h0 := hp p (by simp)
    show (o.set p.1.toNat (st.getD p.1.toNat 0 + p.2)).getD k 0 = _
    by_cases e : p.1 = (k : Int)
    · have e2 : p.1.toNat = k := by omega
      rw [if_pos e, e2]
      simp [List.getD_eq_getElem?_getD, hl, hk]
    · have e2 : p.1.toNat ≠ k := by omega
      rw [if_neg e]
      rw [← h]
      simp [List.getD_eq_getElem?_getD, List.getElem?_set_ne e2]
theorem putL_len (st : List Int) (ps : List (Int × Int)) : (putL st ps).length = st.length := by
  unfold putL
  have : ∀ (ps : List (Int × Int)) (o : List Int), (ps.foldl (fun o p => o.set p.1.toNat (st.getD p.1.toNat 0 + p.2)) o).length = o.length := by
    intro ps
    induction ps with
    | nil => intro o; rfl
    | cons p ps ih => intro o; simp only [List.foldl_cons]; rw [ih]; simp
  exact this ps st
/-- A state with puts added. -/
def addL (st : List Int) (ps : List (Int × Int)) : List Int := (List.range 15).map fun (k : Nat) => st.getD k 0 + dOf ps (k : Int)
theorem addL_len (st : List Int) (ps : List (Int × Int)) : (addL st ps).length = 15 := by simp [addL]
theorem addL_get (st : List Int) (ps : List (Int × Int)) {k : Nat} (hk : k < 15) : (addL st ps).getD k 0 = st.getD k 0 + dOf ps (k : Int) := by
  simp [addL, List.getD_eq_getElem?_getD, hk]
theorem ext15 {xs ys : List Int} (hx : xs.length = 15) (hy : ys.length = 15) (h : ∀ k, k < 15 → xs.getD k 0 = ys.getD k 0) : xs = ys := by
  refine List.ext_getElem (by omega) (fun i h1 h2 => ?_)
  have := h i (by omega)
  simpa [List.getD_eq_getElem?_getD, h1, h2] using this
theorem putL_eq {st : List Int} {ps : List (Int × Int)} (hl : st.length = 15) (hp : ∀ p ∈ ps, 0 ≤ p.1) : putL st ps = addL st ps :=
  ext15 (by rw [putL_len, hl]) (addL_len _ _) fun k hk => by
    rw [addL_get _ _ hk]
    exact (putF_get st k (by omega) ps st 0 hp rfl (by simp)).2
theorem in15 {xs : List Int} (hl : xs.length = 15) : inR xs 0 999 = true ↔ ∀ k, k < 15 → 0 ≤ xs.getD k 0 ∧ xs.getD k 0 ≤ 999 := by
  rw [inR_iff]
  constructor
  · intro h k hk
    have hk' : k < xs.length := by omega
    have := h xs[k] (List.getElem_mem hk')
    simpa [List.getD_eq_getElem?_getD, hk'] using this
  · intro h x hx
    obtain ⟨k, hk, rfl⟩ := List.mem_iff_getElem.1 hx
    have := h k (by omega)
    simpa [List.getD_eq_getElem?_getD, hk] using this
theorem sv_iff {xs : List Int} : svB xs = true ↔ xs.length = 15 ∧ ∀ k, k < 15 → 0 ≤ xs.getD k 0 ∧ xs.getD k 0 ≤ 999 := by
  simp only [svB, Bool.and_eq_true, decide_eq_true_eq]
  constructor
  · rintro ⟨h1, h2⟩; exact ⟨h1, (in15 h1).1 h2⟩
  · rintro ⟨h1, h2⟩; exact ⟨h1, (in15 h1).2 h2⟩
theorem sv_addL (st : List Int) (ps : List (Int × Int)) : svB (addL st ps) = inR (addL st ps) 0 999 := by simp [svB, addL_len]

/-- The sum of the values of keys. -/
def sumR (st : List Int) (ks : List Int) : Int := ks.foldl (fun s k => s + st.getD k.toNat 0) 0
theorem sumR_snoc (st ks : List Int) (k : Int) : sumR st (ks ++ [k]) = sumR st ks + st.getD k.toNat 0 := by simp [sumR, List.foldl_append]
theorem sumF_bound (st : List Int) (hs : ∀ k, 0 ≤ st.getD k 0 ∧ st.getD k 0 ≤ 999) : ∀ (ks : List Int) (s : Int), s ≤ ks.foldl (fun s k => s + st.getD k.toNat 0) s ∧ ks.foldl (fun s k => s + st.getD k.toNat 0) s ≤ s + 999 * ks.length
  | [], s => by simp
  | k :: ks, s => by
    have h1 := sumF_bound st hs ks (s + st.getD k.toNat 0)
    have h2 := hs k.toNat
    simp only [List.foldl_cons, List.length_cons]
    omega
theorem sv_getD {st : List Int} (h : svB st = true) (k : Nat) : 0 ≤ st.getD k 0 ∧ st.getD k 0 ≤ 999 := by
  obtain ⟨hl, h2⟩ := sv_iff.1 h
  rcases Nat.lt_or_ge k 15 with hk | hk
  · exact h2 k hk
  · rw [List.getD_eq_getElem?_getD, List.getElem?_eq_none (by omega)]; simp
theorem sumR_bound {st : List Int} (h : svB st = true) (ks : List Int) : 0 ≤ sumR st ks ∧ sumR st ks ≤ 999 * ks.length := by
  have := sumF_bound st (sv_getD h) ks 0
  unfold sumR; omega
theorem sumF_congr (st st' : List Int) : ∀ (ks : List Int) (s : Int), (∀ k ∈ ks, st.getD k.toNat 0 = st'.getD k.toNat 0) → ks.foldl (fun s k => s + st.getD k.toNat 0) s = ks.foldl (fun s k => s + st'.getD k.toNat 0) s
  | [], s, _ => rfl
  | k :: ks, s, h => by
    simp only [List.foldl_cons]
    rw [h k (by simp)]
    exact sumF_congr st st' ks _ (fun q hq => h q (by simp [hq]))
theorem sumR_congr {st st' ks : List Int} (h : ∀ k ∈ ks, st.getD k.toNat 0 = st'.getD k.toNat 0) : sumR st ks = sumR st' ks := sumF_congr st st' ks 0 h

/-- A transaction's condition holds, and no value would be out of range. -/
def tOk (st : List Int) (t : TX) : Bool := decide (t.need ≤ sumR st t.reads) && inR (addL st t.puts) 0 999
/-- The state behind a valid transaction. -/
def tstep (st : List Int) (t : TX) : List Int := if tOk st t then addL st t.puts else st
theorem tstep_sv {st : List Int} {t : TX} (h : svB st = true) : svB (tstep st t) = true := by
  unfold tstep
  split
  · rename_i ho
    simp only [tOk, Bool.and_eq_true] at ho
    rw [sv_addL]; exact ho.2
  · exact h
theorem tstep_get {st : List Int} {t : TX} {k : Nat} (hk : k < 15) : (tstep st t).getD k 0 = st.getD k 0 + (if tOk st t then dOf t.puts (k : Int) else 0) := by
  unfold tstep
  split
  · exact addL_get _ _ hk
  · simp
theorem tOk_iff {st : List Int} {t : TX} : tOk st t = true ↔ t.need ≤ sumR st t.reads ∧ ∀ k, k < 15 → 0 ≤ st.getD k 0 + dOf t.puts (k : Int) ∧ st.getD k 0 + dOf t.puts (k : Int) ≤ 999 := by
  simp only [tOk, Bool.and_eq_true, decide_eq_true_eq, in15 (addL_len _ _)]
  constructor
  · rintro ⟨h1, h2⟩
    exact ⟨h1, fun k hk => by have := h2 k hk; rwa [addL_get _ _ hk] at this⟩
  · rintro ⟨h1, h2⟩
    exact ⟨h1, fun k hk => by rw [addL_get _ _ hk]; exact h2 k hk⟩

/-- What performing gives. -/
def taB (st : List Int) (t : TX) : Bool := svB st && tvB t && tOk st t
def taL (st : List Int) (t : TX) : List Int := if svB st && tvB t then tstep st t else []
theorem taL_len (st : List Int) (t : TX) : (taL st t).length ≤ 15 := by
  unfold taL
  split
  · rename_i h
    simp only [Bool.and_eq_true] at h
    rw [sv_len (tstep_sv h.1)]; exact Nat.le_refl _
  · simp
theorem taL_yes {st : List Int} {t : TX} (h : taB st t = true) : svB st = true ∧ tvB t = true ∧ tOk st t = true ∧ taL st t = addL st t.puts := by
  simp only [taB, Bool.and_eq_true] at h
  exact ⟨h.1.1, h.1.2, h.2, by simp [taL, tstep, h.1.1, h.1.2, h.2]⟩
theorem taL_nil {st : List Int} {t : TX} (h : (svB st && tvB t) = false) : taL st t = [] ∧ taB st t = false := by simp [taL, taB, h]
theorem taL_step {st : List Int} {t : TX} (h1 : svB st = true) (h2 : tvB t = true) : taL st t = tstep st t ∧ taB st t = tOk st t := by simp [taL, taB, h1, h2]
/-- A transaction is performed on a state whose range test fails at one of its puts. -/
theorem ok_bad {st : List Int} {t : TX} (ht : tvB t = true) {p : Int × Int} (hp : p ∈ t.puts) (h : inB (st.getD p.1.toNat 0 + p.2) 0 999 = false) : tOk st t = false := by
  cases ho : tOk st t with
  | false => rfl
  | true =>
    have hv := tv_iff.1 ht
    have h1 := hv.pk p hp
    have h2 := (tOk_iff.1 ho).2 p.1.toNat (by omega)
    rw [show ((p.1.toNat : Nat) : Int) = p.1 by omega, dOf_mem (keys_iff hv.p).2 hp] at h2
    have : inB (st.getD p.1.toNat 0 + p.2) 0 999 = true := by simp [inB]; exact h2
    rw [h] at this; cases this
theorem ok_all {st : List Int} {t : TX} (hs : svB st = true) (ht : tvB t = true) (hn : t.need ≤ sumR st t.reads) (h : ∀ p ∈ t.puts, inB (st.getD p.1.toNat 0 + p.2) 0 999 = true) : tOk st t = true := by
  have hv := tv_iff.1 ht
  refine tOk_iff.2 ⟨hn, fun k hk => ?_⟩
  rcases dOf_cases (keys_iff hv.p).2 (k : Int) with ⟨_, e⟩ | ⟨p, hp, e1, e⟩
  · rw [e]; have := sv_getD hs k; omega
  · rw [e]
    have := h p hp
    rw [show p.1.toNat = k by omega] at this
    simpa [inB] using this
theorem ok_less {st : List Int} {t : TX} (h : sumR st t.reads < t.need) : tOk st t = false := by
  cases ho : tOk st t with
  | false => rfl
  | true => have := (tOk_iff.1 ho).1; omega
end Go.Proofs.Ytaelaldgohppeaa
