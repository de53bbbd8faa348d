/-
  The plain facts that the laws of transactions come to. No program in sight.
-/
import Derived.Test.YtaelaldgohppeaaTL
import Derived.Test.YtaelaldgohppeaaGL
namespace Go.Proofs.Ytaelaldgohppeaa
set_option linter.unusedVariables false

/-- All keys of a transaction; a key of this group is among these. -/
def tkeys (t : TX) : List Int := t.reads ++ pkeys t.puts
def inG (ks : List Int) (g : Int) : Bool := ks.any fun k => k % 5 == g
theorem inG_iff {ks : List Int} {g : Int} : inG ks g = true ↔ ∃ k ∈ ks, k % 5 = g := by simp [inG]
theorem inG_no {ks : List Int} {g : Int} (h : inG ks g = false) {k : Int} (hk : k ∈ ks) : k % 5 ≠ g := fun e => by
  rw [inG_iff.2 ⟨k, hk, e⟩] at h; cases h
theorem inG_append (a b : List Int) (g : Int) : inG (a ++ b) g = (inG a g || inG b g) := by simp [inG]
theorem inG_snoc (a : List Int) (k g : Int) : inG (a ++ [k]) g = (inG a g || (k % 5 == g)) := by simp [inG]
/-- The groups of a transaction. -/
def tgL (t : TX) : List Int := if tvB t then accK (inG (tkeys t)) 5 else []
theorem tgL_len (t : TX) : (tgL t).length ≤ 5 := by
  unfold tgL
  split
  · exact accK_len _ _
  · simp
theorem tgL_yes {t : TX} (h : tvB t = true) : tgL t = accK (inG (tkeys t)) 5 := by simp [tgL, h]
theorem tgL_no {t : TX} (h : tvB t = false) : tgL t = [] := by simp [tgL, h]
theorem tg_pos {t : TX} (h : tvB t = true) : 0 < (tgL t).length := by
  have hv := tv_iff.1 h
  rw [tgL_yes h]
  have : ∃ k, k ∈ tkeys t ∧ 0 ≤ k := by
    rcases Nat.eq_zero_or_pos t.reads.length with h0 | h0
    · have hl := hv.l
      obtain ⟨p, hp⟩ : ∃ p, p ∈ t.puts := ⟨t.puts[0]'(by omega), List.getElem_mem _⟩
      exact ⟨p.1, by simp [tkeys, mem_pkeys hp], (hv.pk p hp).1⟩
    · exact ⟨t.reads[0], by simp [tkeys], (hv.rk _ (List.getElem_mem h0)).1⟩
  obtain ⟨k, hk, h0⟩ := this
  exact List.length_pos_of_mem (a := k % 5) (mem_accK.2 ⟨⟨by omega, by omega⟩, inG_iff.2 ⟨k, hk, rfl⟩⟩)
theorem tg_valid {t : TX} (h : tvB t = true) : gvB (tgL t) = true := by
  have := tg_pos h
  rw [tgL_yes h] at *
  exact gv_acc this
theorem tg_has {t : TX} (h : tvB t = true) {g : Int} (h0 : 0 ≤ g) (h4 : g < 5) : hasB (tgL t) g = inG (tkeys t) g := by rw [tgL_yes h, has_accK h0 h4]
theorem un_step (ks : List Int) (k : Int) : unL (accK (inG ks) 5) [k % 5] = accK (inG (ks ++ [k])) 5 :=
  accK_congr fun x h0 h4 => by
    rw [has_accK h0 h4, inG_snoc]
    simp [hasB]
theorem apart_of {t u : TX} (ht : tvB t = true) (hu : tvB u = true) (h : (gcL (tgL t) (tgL u)).length = 0) {g : Int} (h0 : 0 ≤ g) (h4 : g < 5) : inG (tkeys t) g = false ∨ inG (tkeys u) g = false := by
  rw [gcL, tg_valid ht, tg_valid hu] at h
  simp only [Bool.and_self, if_true] at h
  have hn : g ∉ accK (fun g => hasB (tgL t) g && hasB (tgL u) g) 5 := by
    rw [List.eq_nil_of_length_eq_zero h]; simp
  rw [mem_accK, tg_has ht h0 h4, tg_has hu h0 h4] at hn
  cases h1 : inG (tkeys t) g with
  | false => exact .inl rfl
  | true =>
    cases h2 : inG (tkeys u) g with
    | false => exact .inr rfl
    | true => exact absurd ⟨⟨h0, by omega⟩, by simp [h1, h2]⟩ hn
theorem tv_of_groups {u : TX} (h : (tgL u).length ≠ 0) : tvB u = true := by
  cases hv : tvB u with
  | true => rfl
  | false => rw [tgL_no hv] at h; simp at h

/-- Reversed puts. -/
def negP (ps : List (Int × Int)) : List (Int × Int) := ps.map fun p => (p.1, -p.2)
theorem negP_snoc (ps : List (Int × Int)) (p : Int × Int) : negP (ps ++ [p]) = negP ps ++ [(p.1, -p.2)] := by simp [negP]
theorem negP_len (ps : List (Int × Int)) : (negP ps).length = ps.length := by simp [negP]
theorem pkeys_neg (ps : List (Int × Int)) : pkeys (negP ps) = pkeys ps := by simp [pkeys, negP, Function.comp_def]
theorem dFold_neg : ∀ (ps : List (Int × Int)) (k d : Int), dFold (-d) (negP ps) k = - dFold d ps k
  | [], _, _ => rfl
  | p :: ps, k, d => by
    show dFold (if p.1 = k then -p.2 else -d) (negP ps) k = - dFold (if p.1 = k then p.2 else d) ps k
    split
    · exact dFold_neg ps k _
    · exact dFold_neg ps k _
theorem dOf_neg (ps : List (Int × Int)) (k : Int) : dOf (negP ps) k = - dOf ps k := by
  have := dFold_neg ps k 0
  simpa [dOf] using this
def backT (t : TX) : TX := ⟨[], 0, negP t.puts⟩
theorem back_tv {t : TX} (h : tvB t = true) (hp : 0 < t.puts.length) : tvB (backT t) = true := by
  have hv := tv_iff.1 h
  refine tv_iff.2 ⟨keys_nil, by show keysB (pkeys (negP t.puts)) = true; rw [pkeys_neg]; exact hv.p, by show 0 < 0 + (negP t.puts).length; rw [negP_len]; omega, by show (0 : Int) ≤ 0; omega, by show (0 : Int) ≤ 14985; omega, fun p hp => ?_⟩
  obtain ⟨q, hq, rfl⟩ := List.mem_map.1 hp
  have := hv.a q hq
  simp only; omega
theorem back_yes {st : List Int} {t : TX} (h : taB st t = true) (hp : 0 < t.puts.length) : taB (taL st t) (backT t) = true ∧ taL (taL st t) (backT t) = st := by
  obtain ⟨h1, h2, h3, h4⟩ := taL_yes h
  have hs' : svB (addL st t.puts) = true := by have := tstep_sv (t := t) h1; simpa [tstep, h3] using this
  have ht' := back_tv h2 hp
  have hb : ∀ k, k < 15 → (addL st t.puts).getD k 0 + dOf (negP t.puts) (k : Int) = st.getD k 0 := fun k hk => by
    rw [addL_get _ _ hk, dOf_neg]; omega
  have ho : tOk (addL st t.puts) (backT t) = true := tOk_iff.2 ⟨by simp [backT, sumR], fun k hk => by
    show 0 ≤ _ + dOf (negP t.puts) _ ∧ _ + dOf (negP t.puts) _ ≤ 999
    rw [hb k hk]; exact sv_getD h1 k⟩
  rw [h4]
  obtain ⟨e1, e2⟩ := taL_step hs' ht'
  rw [e1, e2]
  refine ⟨ho, ?_⟩
  rw [tstep, if_pos ho]
  exact ext15 (addL_len _ _) (sv_iff.1 h1).1 fun k hk => by rw [addL_get _ _ hk]; exact hb k hk

/-- A put left out. -/
def lessP (ps : List (Int × Int)) (i : Nat) : List (Int × Int) := ps.take i ++ ps.drop (i + 1)
def partT (t : TX) (i : Nat) : TX := ⟨t.reads, t.need, lessP t.puts i⟩
theorem lessP_len {ps : List (Int × Int)} {i : Nat} (h : i < ps.length) : (lessP ps i).length + 1 = ps.length := by simp [lessP]; omega
theorem lessP_sub (ps : List (Int × Int)) (i : Nat) : (lessP ps i).Sublist ps := by
  have h : (ps.drop (i + 1)).Sublist (ps.drop i) := by
    rw [← List.drop_drop]; exact List.drop_sublist _ _
  have := List.Sublist.append (List.Sublist.refl (ps.take i)) h
  rwa [List.take_append_drop] at this
theorem part_tv {t : TX} {i : Nat} (h : tvB t = true) (hi : i < t.puts.length) (h2 : 2 ≤ t.puts.length + t.reads.length) : tvB (partT t i) = true := by
  have hv := tv_iff.1 h
  have hs := lessP_sub t.puts i
  have hs2 : (pkeys (lessP t.puts i)).Sublist (pkeys t.puts) := List.Sublist.map _ hs
  have hk := keys_iff hv.p
  refine tv_iff.2 ⟨hv.r, keys_mk (fun x hx => hk.1 x (hs2.subset hx)) (List.Pairwise.sublist hs2 hk.2), ?_, hv.n0, hv.n9, fun p hp => hv.a p (hs.subset hp)⟩
  have := lessP_len hi
  show 0 < t.reads.length + (lessP t.puts i).length
  omega
theorem less_not {ps : List (Int × Int)} {i : Nat} {p : Int × Int} (h : (pkeys ps).Pairwise (· < ·)) (hi : ps[i]? = some p) : p.1 ∉ pkeys (lessP ps i) := by
  have hl := (List.getElem?_eq_some_iff.1 hi).1
  have he : ps = ps.take i ++ p :: ps.drop (i + 1) := by
    have h1 := List.take_append_drop i ps
    rw [List.drop_eq_getElem_cons hl] at h1
    rw [(List.getElem?_eq_some_iff.1 hi).2] at h1
    exact h1.symm
  rw [he] at h
  simp only [pkeys, List.map_append, List.map_cons, List.pairwise_append, List.pairwise_cons] at h
  intro hm
  simp only [pkeys, lessP, List.map_append, List.mem_append] at hm
  rcases hm with hm | hm
  · have := h.2.2 _ hm p.1 (by simp); omega
  · have := h.2.1.1 _ hm; omega
theorem part_yes {st : List Int} {t : TX} {i : Nat} {p : Int × Int} (h : taB st t = true) (hi : t.puts[i]? = some p) (h2 : 2 ≤ t.puts.length + t.reads.length) :
    taB st (partT t i) = true ∧ (taL st (partT t i)).length = 15 ∧ (taL st (partT t i)).getD p.1.toNat 0 = st.getD p.1.toNat 0 ∧ 0 ≤ p.1 ∧ p.1 ≤ 14 := by
  obtain ⟨h1, hv, h3, h4⟩ := taL_yes h
  have hl := (List.getElem?_eq_some_iff.1 hi).1
  have hV := tv_iff.1 hv
  have hu := part_tv hv hl h2
  have hpw := (keys_iff hV.p).2
  have hpw2 := (keys_iff (tv_iff.1 hu).p).2
  have hok := tOk_iff.1 h3
  have hpk := hV.pk p (List.mem_of_getElem? hi)
  have ho : tOk st (partT t i) = true := tOk_iff.2 ⟨hok.1, fun k hk => by
    rcases dOf_cases hpw2 (k : Int) with ⟨_, e⟩ | ⟨q, hq, e1, e⟩
    · rw [e]; have := sv_getD h1 k; omega
    · rw [e]
      have := hok.2 k hk
      rw [← e1, dOf_mem hpw ((lessP_sub t.puts i).subset hq)] at this
      exact this⟩
  obtain ⟨e1, e2⟩ := taL_step h1 hu
  rw [e1, e2]
  refine ⟨ho, sv_len (tstep_sv h1), ?_, hpk⟩
  rw [tstep_get (by omega), if_pos ho]
  have : dOf (lessP t.puts i) ((p.1.toNat : Nat) : Int) = 0 := by
    rw [show ((p.1.toNat : Nat) : Int) = p.1 by omega]
    exact dOf_not (less_not hpw hi)
  show _ + dOf (lessP t.puts i) _ = _
  rw [this]; simp

/-- Reading alone. -/
def readT (t : TX) : TX := ⟨t.reads, t.need, []⟩
theorem read_yes {st : List Int} {t : TX} (h1 : svB st = true) (hv : tvB t = true) (hr : 0 < t.reads.length) : taL st (readT t) = st ∧ taB st (readT t) = decide (t.need ≤ sumR st t.reads) := by
  have hV := tv_iff.1 hv
  have hu : tvB (readT t) = true := tv_iff.2 ⟨hV.r, keys_nil, by show 0 < t.reads.length + 0; omega, hV.n0, hV.n9, fun p hp => by cases hp⟩
  obtain ⟨e1, e2⟩ := taL_step h1 hu
  have ha : addL st (readT t).puts = st := ext15 (addL_len _ _) (sv_iff.1 h1).1 fun k hk => by rw [addL_get _ _ hk]; simp [readT, dOf, dFold]
  have ho : tOk st (readT t) = decide (t.need ≤ sumR st t.reads) := by
    unfold tOk
    rw [ha]
    have : inR st 0 999 = true := by simp only [svB, Bool.and_eq_true] at h1; exact h1.2
    rw [this, Bool.and_true]; rfl
  rw [e1, e2, ho]
  refine ⟨?_, rfl⟩
  unfold tstep
  rw [ha]
  simp

/-- Where two states agree on a transaction's groups, it does the same. -/
theorem tOk_congr {st st' : List Int} {t : TX} (h : svB st = true) (h' : svB st' = true) (ht : tvB t = true) (ha : ∀ k : Nat, k < 15 → inG (tkeys t) ((k : Int) % 5) = true → st.getD k 0 = st'.getD k 0) : tOk st t = tOk st' t := by
  have hv := tv_iff.1 ht
  have hsum : sumR st t.reads = sumR st' t.reads := sumR_congr fun k hk => by
    have hb := hv.rk k hk
    refine ha _ (by omega) (inG_iff.2 ⟨k, by simp [tkeys, hk], by omega⟩)
  have key : ∀ {a b : List Int}, svB a = true → svB b = true → (∀ k : Nat, k < 15 → inG (tkeys t) ((k : Int) % 5) = true → a.getD k 0 = b.getD k 0) → sumR a t.reads = sumR b t.reads → tOk a t = true → tOk b t = true := by
    intro a b ha hb hab hs ho
    have ho := tOk_iff.1 ho
    refine tOk_iff.2 ⟨by omega, fun k hk => ?_⟩
    rcases dOf_cases (keys_iff hv.p).2 (k : Int) with ⟨_, e⟩ | ⟨p, hp, e1, e⟩
    · rw [e]; have := sv_getD hb k; omega
    · rw [← hab k hk (inG_iff.2 ⟨p.1, by simp [tkeys, mem_pkeys hp], by rw [e1]⟩)]
      exact ho.2 k hk
  cases h1 : tOk st t with
  | true => exact (key h h' ha hsum h1).symm
  | false =>
    cases h2 : tOk st' t with
    | false => rfl
    | true => rw [key h' h (fun k hk hg => (ha k hk hg).symm) hsum.symm h2] at h1; cases h1
theorem dOf_far {t : TX} {k : Nat} (h : inG (tkeys t) ((k : Int) % 5) = false) : dOf t.puts (k : Int) = 0 := dOf_not fun hm => by
  exact inG_no h (show (k : Int) ∈ tkeys t by simp [tkeys, hm]) rfl
theorem tstep_far {st : List Int} {t : TX} {k : Nat} (hk : k < 15) (h : inG (tkeys t) ((k : Int) % 5) = false) : (tstep st t).getD k 0 = st.getD k 0 := by
  rw [tstep_get hk, dOf_far h]; simp
theorem commute_yes {st : List Int} {t u : TX} (hs : svB st = true) (ht : tvB t = true) (hu : tvB u = true) (hg : (gcL (tgL t) (tgL u)).length = 0) :
    tOk (tstep st t) u = tOk st u ∧ tOk (tstep st u) t = tOk st t ∧ tstep (tstep st t) u = tstep (tstep st u) t := by
  have hap : ∀ k : Nat, inG (tkeys t) ((k : Int) % 5) = false ∨ inG (tkeys u) ((k : Int) % 5) = false := fun k => apart_of ht hu hg (by omega) (by omega)
  have e1 : tOk (tstep st t) u = tOk st u := tOk_congr (tstep_sv hs) hs hu fun k hk hg => tstep_far hk (by
    rcases hap k with h | h
    · exact h
    · rw [hg] at h; cases h)
  have e2 : tOk (tstep st u) t = tOk st t := tOk_congr (tstep_sv hs) hs ht fun k hk hg => tstep_far hk (by
    rcases hap k with h | h
    · rw [hg] at h; cases h
    · exact h)
  refine ⟨e1, e2, ext15 (sv_len (tstep_sv (tstep_sv hs))) (sv_len (tstep_sv (tstep_sv hs))) fun k hk => ?_⟩
  rw [tstep_get hk, tstep_get hk, tstep_get hk, tstep_get hk, e1, e2]
  omega
/-- Other groups keep their values. -/
theorem part_far {st st' : List Int} {g : Int} (hs : svB st = true) (hs' : svB st' = true) (h : ∀ k : Nat, k < 15 → (k : Int) % 5 = g → st.getD k 0 = st'.getD k 0) : spart st g = spart st' g := by
  unfold spart
  rw [hs, hs']
  cases hg : inB g 0 4 with
  | false => rfl
  | true =>
    simp only [Bool.and_self, if_true]
    have hg' : 0 ≤ g ∧ g ≤ 4 := by simpa [inB] using hg
    unfold partJ
    refine List.map_congr_left fun i hi => ?_
    have := List.mem_range.1 hi
    exact h _ (by omega) (by omega)
theorem local_yes {st : List Int} {t : TX} {g : Int} (hs : svB st = true) (ht : tvB t = true) (h0 : 0 ≤ g) (h4 : g < 5) (h : hasB (tgL t) g = false) : spart (tstep st t) g = spart st g := by
  rw [tg_has ht h0 h4] at h
  exact part_far (tstep_sv hs) hs fun k hk e => tstep_far hk (by rw [e]; exact h)

/-- Transactions performed one after the other. -/
def runL (st : List Int) (ts : List TX) : List Int := ts.foldl tstep st
def runB : List Int → List TX → List Bool
  | _, [] => []
  | st, t :: ts => tOk st t :: runB (tstep st t) ts
theorem runL_snoc (st : List Int) (ts : List TX) (t : TX) : runL st (ts ++ [t]) = tstep (runL st ts) t := by simp [runL, List.foldl_append]
theorem runL_append (st : List Int) (a b : List TX) : runL st (a ++ b) = runL (runL st a) b := by simp [runL, List.foldl_append]
theorem runB_append : ∀ (st : List Int) (a b : List TX), runB st (a ++ b) = runB st a ++ runB (runL st a) b
  | _, [], _ => rfl
  | st, t :: a, b => by simp only [List.cons_append, runB]; rw [runB_append (tstep st t) a b]; rfl
theorem runB_snoc (st : List Int) (ts : List TX) (t : TX) : runB st (ts ++ [t]) = runB st ts ++ [tOk (runL st ts) t] := by rw [runB_append]; rfl
theorem runB_len : ∀ (st : List Int) (ts : List TX), (runB st ts).length = ts.length
  | _, [] => rfl
  | st, t :: ts => by simp only [runB, List.length_cons]; rw [runB_len]
theorem runL_sv {st : List Int} (h : svB st = true) : ∀ (ts : List TX), svB (runL st ts) = true := by
  intro ts
  unfold runL
  induction ts generalizing st with
  | nil => exact h
  | cons t ts ih => exact ih (tstep_sv h)
theorem runB_get : ∀ (st : List Int) (ts : List TX) {i : Nat} {t : TX}, ts[i]? = some t → (runB st ts)[i]? = some (tOk (runL st (ts.take i)) t)
  | _, [], i, t, h => by simp at h
  | st, a :: ts, 0, t, h => by simp at h; subst h; rfl
  | st, a :: ts, i + 1, t, h => by
    simp only [List.getElem?_cons_succ] at h
    simp only [runB, List.getElem?_cons_succ, List.take_succ_cons]
    exact runB_get (tstep st a) ts h
def rvB (st : List Int) (ts : List TX) : Bool := svB st && decide (ts.length ≤ 10) && ts.all tvB
def srL (st : List Int) (ts : List TX) : List Int := if rvB st ts then runL st ts else []
def srB (st : List Int) (ts : List TX) : List Bool := if rvB st ts then runB st ts else []
theorem rv_iff {st : List Int} {ts : List TX} : rvB st ts = true ↔ svB st = true ∧ ts.length ≤ 10 ∧ ∀ t ∈ ts, tvB t = true := by
  simp only [rvB, Bool.and_eq_true, decide_eq_true_eq, List.all_eq_true, and_assoc]
theorem rv_bad {st : List Int} {ts : List TX} {i : Nat} {t : TX} (hi : ts[i]? = some t) (h : tvB t = false) : rvB st ts = false := by
  cases hr : rvB st ts with
  | false => rfl
  | true => rw [(rv_iff.1 hr).2.2 t (List.mem_of_getElem? hi)] at h; cases h
theorem sr_no {st : List Int} {ts : List TX} (h : rvB st ts = false) : srL st ts = [] ∧ srB st ts = [] := by simp [srL, srB, h]
theorem sr_yes {st : List Int} {ts : List TX} (h : rvB st ts = true) : srL st ts = runL st ts ∧ srB st ts = runB st ts := by simp [srL, srB, h]
theorem srL_len (st : List Int) (ts : List TX) : (srL st ts).length ≤ 15 := by
  unfold srL
  split
  · rename_i h; rw [sv_len (runL_sv (rv_iff.1 h).1 ts)]; exact Nat.le_refl _
  · simp
theorem srB_len (st : List Int) (ts : List TX) : (srB st ts).length ≤ 10 := by
  unfold srB
  split
  · rename_i h; rw [runB_len]; exact (rv_iff.1 h).2.1
  · simp
theorem rv_of_pos {st : List Int} {ts : List TX} (h : (srL st ts).length ≠ 0) : rvB st ts = true := by
  cases hr : rvB st ts with
  | true => rfl
  | false => rw [(sr_no hr).1] at h; simp at h
theorem rv_sub {st : List Int} {ts us : List TX} (h : rvB st ts = true) (hs : us.Sublist ts) : rvB st us = true := by
  have := rv_iff.1 h
  exact rv_iff.2 ⟨this.1, Nat.le_trans hs.length_le this.2.1, fun t ht => this.2.2 t (hs.subset ht)⟩

/-- Those of a list that are marked. -/
def keepL : List TX → List Bool → List TX
  | t :: ts, b :: bs => if b then t :: keepL ts bs else keepL ts bs
  | _, _ => []
theorem keepL_snoc : ∀ {ts : List TX} {bs : List Bool} (t : TX) (b : Bool), ts.length = bs.length → keepL (ts ++ [t]) (bs ++ [b]) = keepL ts bs ++ (if b then [t] else [])
  | [], [], t, b, _ => by cases b <;> rfl
  | [], _ :: _, _, _, h => by simp at h
  | _ :: _, [], _, _, h => by simp at h
  | a :: ts, c :: bs, t, b, h => by
    have ih := keepL_snoc (ts := ts) (bs := bs) t b (by simpa using h)
    cases c with
    | true => simp only [List.cons_append, keepL, if_true, ih]
    | false => simp only [List.cons_append, keepL, Bool.false_eq_true, if_false, ih]
theorem keepL_sub : ∀ (ts : List TX) (bs : List Bool), (keepL ts bs).Sublist ts
  | [], bs => by cases bs <;> simp [keepL]
  | t :: ts, [] => by simp [keepL]
  | t :: ts, b :: bs => by
    cases b with
    | true => simp only [keepL, if_true]; exact (keepL_sub ts bs).cons_cons t
    | false => simp only [keepL, Bool.false_eq_true, if_false]; exact (keepL_sub ts bs).cons t
theorem failed_run : ∀ (st : List Int) (ts : List TX), runL st (keepL ts (runB st ts)) = runL st ts ∧ ∀ b ∈ runB st (keepL ts (runB st ts)), b = true
  | _, [] => ⟨rfl, by simp [keepL, runB]⟩
  | st, t :: ts => by
    obtain ⟨h1, h2⟩ := failed_run (tstep st t) ts
    cases ho : tOk st t with
    | true =>
      simp only [runB, ho, keepL, if_true]
      refine ⟨h1, fun b hb => ?_⟩
      rcases List.mem_cons.1 hb with e | e
      · exact e
      · exact h2 b e
    | false =>
      have e : tstep st t = st := by simp [tstep, ho]
      rw [e] at h1 h2
      simp only [runB, ho, keepL, Bool.false_eq_true, if_false, e]
      exact ⟨h1.trans (by show _ = runL (tstep st t) ts; rw [e]), h2⟩
theorem failed_yes {st : List Int} {ts : List TX} (h : rvB st ts = true) : srL st (keepL ts (srB st ts)) = srL st ts ∧ ∀ b ∈ srB st (keepL ts (srB st ts)), b = true := by
  obtain ⟨e1, e2⟩ := sr_yes h
  have h2 := rv_sub h (keepL_sub ts (runB st ts))
  rw [e1, e2, (sr_yes h2).1, (sr_yes h2).2]
  exact failed_run st ts
theorem parts_yes {st : List Int} {ts : List TX} (h : rvB st ts = true) (k : Nat) : srL (srL st (ts.take k)) (ts.drop k) = srL st ts ∧ srB st (ts.take k) ++ srB (srL st (ts.take k)) (ts.drop k) = srB st ts := by
  have h1 := rv_sub h (List.take_sublist k ts)
  have h2 : rvB (runL st (ts.take k)) (ts.drop k) = true := by
    have h3 := rv_iff.1 (rv_sub h (List.drop_sublist k ts))
    exact rv_iff.2 ⟨runL_sv h3.1 _, h3.2⟩
  rw [(sr_yes h1).1, (sr_yes h1).2, (sr_yes h2).1, (sr_yes h2).2, (sr_yes h).1, (sr_yes h).2, ← runL_append, ← runB_append, List.take_append_drop]
  exact ⟨rfl, rfl⟩
theorem merge_run {g : Int} (h0 : 0 ≤ g) (h4 : g < 5) : ∀ (st : List Int) (ts : List TX), svB st = true → (∀ t ∈ ts, tvB t = true ∧ hasB (tgL t) g = false) → spart (runL st ts) g = spart st g
  | _, [], _, _ => rfl
  | st, t :: ts, hs, h => by
    show spart (runL (tstep st t) ts) g = _
    rw [merge_run h0 h4 (tstep st t) ts (tstep_sv hs) (fun u hu => h u (by simp [hu]))]
    exact local_yes hs (h t (by simp)).1 h0 h4 (h t (by simp)).2
theorem merge_yes {st : List Int} {ts us : List TX} {g : Int} (h0 : 0 ≤ g) (h4 : g < 5) (h : rvB st ts = true) (hs : us.Sublist ts) (hu : ∀ t ∈ us, hasB (tgL t) g = false) : spart (srL st us) g = spart st g := by
  have h2 := rv_sub h hs
  rw [(sr_yes h2).1]
  have h3 := rv_iff.1 h2
  exact merge_run h0 h4 st us h3.1 fun t ht => ⟨h3.2.2 t ht, hu t ht⟩
end Go.Proofs.Ytaelaldgohppeaa
