/-
  The plain laws of credits: what asking and giving come to. No program in sight.
-/
import Derived.Test.YtehgipbedlamaaaGL
namespace Go.Proofs.Ytehgipbedlamaaa
set_option linter.unusedVariables false

/-- A sender's state; all credits. -/
structure HX where
  has : List Int
  wait : Int
structure CX where
  free : List Int
  holds : List HX
instance : Inhabited HX := ⟨⟨[], -1⟩⟩
def hz : HX := ⟨[], -1⟩
def hAt (hs : List HX) (k : Nat) : HX := hs.getD k hz
theorem hAt_of {hs : List HX} {k : Nat} {h : HX} (e : hs[k]? = some h) : hAt hs k = h := by simp [hAt, List.getD_eq_getElem?_getD, e]
theorem hAt_some {hs : List HX} {k : Nat} (e : k < hs.length) : hs[k]? = some (hAt hs k) := by simp [hAt, List.getD_eq_getElem?_getD, e]
theorem hAt_set {hs : List HX} {s : Nat} {h : HX} (hl : s < hs.length) (k : Nat) : hAt (hs.set s h) k = if s = k then h else hAt hs k := by
  unfold hAt
  rw [List.getD_eq_getElem?_getD, List.getElem?_set]
  split
  · rename_i e
    subst e
    simp [hl]
  · simp [List.getD_eq_getElem?_getD]
theorem hs_ext {a b : List HX} (hl : a.length = b.length) (h : ∀ k, k < a.length → hAt a k = hAt b k) : a = b := by
  refine List.ext_getElem hl (fun i h1 h2 => ?_)
  have := h i h1
  simpa [hAt, List.getD_eq_getElem?_getD, h1, h2] using this

def frB (xs : List Int) : Bool := decide (xs.length = 5) && inR xs 0 9
def hvB (free : List Int) (h : HX) : Bool := (decide (h.has.length = 0) || gvB h.has) && (h.wait == -1 || (inB h.wait 0 4 && (decide (free.getD h.wait.toNat 0 ≤ 0) && !hasB h.has h.wait)))
/-- Credits are valid. -/
def cvB (c : CX) : Bool := frB c.free && inB (c.holds.length : Int) 1 6 && c.holds.all (hvB c.free)
theorem in5 {xs : List Int} (hl : xs.length = 5) : inR xs 0 9 = true ↔ ∀ k, k < 5 → 0 ≤ xs.getD k 0 ∧ xs.getD k 0 ≤ 9 := by
  rw [inR_iff]
  constructor
  · intro h k hk
    have hk' : k < xs.length := by omega
    have := h xs[k] (List.getElem_mem hk')
    simpa [List.getD_eq_getElem?_getD, hk'] using this
  · intro h x hx
    obtain ⟨k, hk, rfl⟩ := List.mem_iff_getElem.1 hx
    have := h k (by omega)
    simpa [List.getD_eq_getElem?_getD, hk] using this
theorem ext5 {xs ys : List Int} (hx : xs.length = 5) (hy : ys.length = 5) (h : ∀ k, k < 5 → xs.getD k 0 = ys.getD k 0) : xs = ys := by
  refine List.ext_getElem (by omega) (fun i h1 h2 => ?_)
  have := h i (by omega)
  simpa [List.getD_eq_getElem?_getD, h1, h2] using this
/-- A valid sender's state. -/
structure Hv (free : List Int) (h : HX) : Prop where
  m : ∀ x ∈ h.has, 0 ≤ x ∧ x ≤ 4
  p : h.has.Pairwise (· < ·)
  w : h.wait = -1 ∨ (0 ≤ h.wait ∧ h.wait ≤ 4 ∧ free.getD h.wait.toNat 0 ≤ 0 ∧ h.wait ∉ h.has)
structure Cv (c : CX) : Prop where
  f : c.free.length = 5
  fr : ∀ k, k < 5 → 0 ≤ c.free.getD k 0 ∧ c.free.getD k 0 ≤ 9
  l1 : 1 ≤ c.holds.length
  l6 : c.holds.length ≤ 6
  h : ∀ h ∈ c.holds, Hv c.free h
theorem gv_iff {xs : List Int} : gvB xs = true ↔ 0 < xs.length ∧ (∀ x ∈ xs, 0 ≤ x ∧ x ≤ 4) ∧ xs.Pairwise (· < ·) := by
  simp only [gvB, Bool.and_eq_true, decide_eq_true_eq]
  constructor
  · rintro ⟨h1, h2, h3⟩; exact ⟨h1, inR_iff.1 h3, pairwise_of_asc h2⟩
  · rintro ⟨h1, h2, h3⟩; exact ⟨h1, asc_of_pairwise h3, inR_iff.2 h2⟩
theorem hv_iff {free : List Int} {h : HX} : hvB free h = true ↔ Hv free h := by
  simp only [hvB, inB, Bool.and_eq_true, Bool.or_eq_true, decide_eq_true_eq, beq_iff_eq, gv_iff, Bool.not_eq_true', hasB_no]
  constructor
  · rintro ⟨h1, h2⟩
    refine ⟨?_, ?_, ?_⟩
    · rcases h1 with h1 | h1
      · rw [List.eq_nil_of_length_eq_zero h1]; simp
      · exact h1.2.1
    · rcases h1 with h1 | h1
      · rw [List.eq_nil_of_length_eq_zero h1]; simp
      · exact h1.2.2
    · rcases h2 with h2 | h2
      · exact .inl h2
      · exact .inr ⟨h2.1.1, h2.1.2, h2.2.1, h2.2.2⟩
  · rintro ⟨h1, h2, h3⟩
    refine ⟨?_, ?_⟩
    · rcases Nat.eq_zero_or_pos h.has.length with h0 | h0
      · exact .inl h0
      · exact .inr ⟨h0, h1, h2⟩
    · rcases h3 with h3 | h3
      · exact .inl h3
      · exact .inr ⟨⟨h3.1, h3.2.1⟩, h3.2.2.1, h3.2.2.2⟩
theorem cv_iff {c : CX} : cvB c = true ↔ Cv c := by
  simp only [cvB, frB, inB, Bool.and_eq_true, decide_eq_true_eq, List.all_eq_true, hv_iff]
  constructor
  · rintro ⟨⟨⟨h1, h2⟩, h3, h4⟩, h5⟩
    exact ⟨h1, (in5 h1).1 h2, by omega, by omega, h5⟩
  · rintro ⟨h1, h2, h3, h4, h5⟩
    exact ⟨⟨⟨h1, (in5 h1).2 h2⟩, by omega, by omega⟩, h5⟩
theorem Cv.at_ {c : CX} (h : Cv c) {k : Nat} (hk : k < c.holds.length) : Hv c.free (hAt c.holds k) := h.h _ (List.mem_of_getElem? (hAt_some hk))
theorem cv_at {c : CX} (hf : c.free.length = 5) (hfr : ∀ k, k < 5 → 0 ≤ c.free.getD k 0 ∧ c.free.getD k 0 ≤ 9) (h1 : 1 ≤ c.holds.length) (h6 : c.holds.length ≤ 6) (h : ∀ k, k < c.holds.length → Hv c.free (hAt c.holds k)) : Cv c :=
  ⟨hf, hfr, h1, h6, fun x hx => by
    obtain ⟨k, hk, rfl⟩ := List.mem_iff_getElem.1 hx
    have := h k hk
    rwa [hAt_of (List.getElem?_eq_getElem hk)] at this⟩
theorem hv_len {free : List Int} {h : HX} (hv : Hv free h) : h.has.length ≤ 5 := by
  have := sorted_len 8 (xs := h.has) (fun x hx => by have := hv.m x hx; omega) hv.p
  have key : ∀ (b : Nat) {xs : List Int}, (∀ x ∈ xs, 5 - (b : Int) ≤ x ∧ x ≤ 4) → xs.Pairwise (· < ·) → xs.length ≤ b := by
    intro b
    induction b with
    | zero =>
      intro xs h hp
      cases xs with
      | nil => simp
      | cons x xs => have := h x (by simp); omega
    | succ b ih =>
      intro xs h hp
      cases xs with
      | nil => simp
      | cons x xs =>
        rw [List.pairwise_cons] at hp
        have := ih (xs := xs) (fun y hy => by have := hp.1 y hy; have := h x (by simp); have := h y (by simp [hy]); omega) hp.2
        simp; omega
  exact key 5 (fun x hx => by have := hv.m x hx; omega) hv.p

/-- A set with a group more. -/
def wiL (has : List Int) (g : Int) : List Int := accK (fun x => x == g || hasB has x) 5
theorem wi_un (has : List Int) (g : Int) : unL has [g] = wiL has g := accK_congr fun x _ _ => by
  simp only [hasB, List.any_cons, List.any_nil, Bool.or_false]
  rw [Bool.or_comm, BEq.comm (a := g)]
theorem mem_wi {has : List Int} {g x : Int} (hm : ∀ x ∈ has, 0 ≤ x ∧ x ≤ 4) (h0 : 0 ≤ g) (h4 : g ≤ 4) : x ∈ wiL has g ↔ x = g ∨ x ∈ has := by
  unfold wiL
  rw [mem_accK]
  simp only [Bool.or_eq_true, beq_iff_eq, hasB_iff]
  constructor
  · rintro ⟨_, h⟩; exact h
  · intro h
    refine ⟨?_, h⟩
    rcases h with h | h
    · omega
    · have := hm x h; omega
theorem wi_sorted (has : List Int) (g : Int) : (wiL has g).Pairwise (· < ·) := accK_sorted _
theorem wi_range (has : List Int) (g : Int) : ∀ x ∈ wiL has g, 0 ≤ x ∧ x ≤ 4 := fun x hx => by have := (mem_accK.1 hx).1; omega
theorem wi_len (has : List Int) (g : Int) : (wiL has g).length ≤ 5 := accK_len _ _
theorem wi_nil {g : Int} (h0 : 0 ≤ g) (h4 : g ≤ 4) : wiL [] g = [g] := sorted_ext (wi_sorted _ _) (by simp) fun x => by rw [mem_wi (by simp) h0 h4]; simp
theorem wi_has {has : List Int} {g x : Int} (hm : ∀ x ∈ has, 0 ≤ x ∧ x ≤ 4) (h0 : 0 ≤ g) (h4 : g ≤ 4) : hasB (wiL has g) x = (x == g || hasB has x) := by
  rw [Bool.eq_iff_iff, Bool.or_eq_true, hasB_iff, mem_wi hm h0 h4, beq_iff_eq, hasB_iff]

/-- Asking. -/
def askOk (c : CX) (s g : Int) : Bool := cvB c && inB s 0 ((c.holds.length : Int) - 1) && inB g 0 4
def stopA (c : CX) (s g : Int) : Bool := (hAt c.holds s.toNat).wait != -1 || hasB (hAt c.holds s.toNat).has g
def cNo : CX := ⟨[], []⟩
def askY (c : CX) (s g : Int) : CX :=
  if c.free.getD g.toNat 0 ≤ 0 then ⟨c.free, c.holds.set s.toNat ⟨(hAt c.holds s.toNat).has, g⟩⟩
  else ⟨c.free.set g.toNat (c.free.getD g.toNat 0 - 1), c.holds.set s.toNat ⟨wiL (hAt c.holds s.toNat).has g, -1⟩⟩
def askC (c : CX) (s g : Int) : CX := if askOk c s g then (if stopA c s g then c else askY c s g) else cNo
def askB (c : CX) (s g : Int) : Bool := askOk c s g && !stopA c s g
theorem ask_yes {c : CX} {s g : Int} (h : askB c s g = true) : Cv c ∧ (0 ≤ s ∧ s.toNat < c.holds.length) ∧ (0 ≤ g ∧ g ≤ 4) ∧ (hAt c.holds s.toNat).wait = -1 ∧ g ∉ (hAt c.holds s.toNat).has ∧ askC c s g = askY c s g := by
  simp only [askB, Bool.and_eq_true, Bool.not_eq_true'] at h
  obtain ⟨h1, h2⟩ := h
  have e : askC c s g = askY c s g := by simp [askC, h1, h2]
  simp only [askOk, inB, Bool.and_eq_true, decide_eq_true_eq] at h1
  simp only [stopA, Bool.or_eq_false_iff, bne_eq_false_iff_eq] at h2
  exact ⟨cv_iff.1 h1.1.1, ⟨h1.1.2.1, by omega⟩, h1.2, h2.1, hasB_no.1 h2.2, e⟩
theorem getD_set5 {xs : List Int} {i : Nat} {v : Int} (hl : i < xs.length) (k : Nat) : (xs.set i v).getD k 0 = if i = k then v else xs.getD k 0 := by
  rw [List.getD_eq_getElem?_getD, List.getElem?_set]
  split
  · rename_i e
    subst e
    simp [hl]
  · simp [List.getD_eq_getElem?_getD]
theorem ask_cv {c : CX} {s g : Int} (h : askB c s g = true) : Cv (askY c s g) := by
  obtain ⟨hc, ⟨hs0, hs⟩, ⟨hg0, hg4⟩, hw, hn, _⟩ := ask_yes h
  have hS := hc.at_ hs
  unfold askY
  by_cases hf : c.free.getD g.toNat 0 ≤ 0
  · rw [if_pos hf]
    refine cv_at hc.f hc.fr (by simpa using hc.l1) (by simpa using hc.l6) fun k hk => ?_
    rw [hAt_set hs]
    split
    · exact ⟨hS.m, hS.p, .inr ⟨hg0, hg4, hf, hn⟩⟩
    · exact hc.at_ (by simpa using hk)
  · rw [if_neg hf]
    have hl : g.toNat < c.free.length := by rw [hc.f]; omega
    have hgr := hc.fr g.toNat (by omega)
    refine cv_at (by simpa using hc.f) (fun k hk => ?_) (by simpa using hc.l1) (by simpa using hc.l6) fun k hk => ?_
    · simp only
      rw [getD_set5 hl]
      split
      · omega
      · exact hc.fr k hk
    · simp only
      rw [hAt_set hs]
      split
      · exact ⟨wi_range _ _, wi_sorted _ _, .inl rfl⟩
      · have hk' := hc.at_ (k := k) (by simpa using hk)
        refine ⟨hk'.m, hk'.p, ?_⟩
        rcases hk'.w with e | ⟨e1, e2, e3, e4⟩
        · exact .inl e
        · refine .inr ⟨e1, e2, ?_, e4⟩
          rw [getD_set5 hl, if_neg (fun e => hf (by rw [e]; exact e3))]
          exact e3

/-- Giving. -/
def firstW (hs : List HX) (g : Int) : Option Nat := hs.findIdx? fun h => h.wait == g
def giveStep (c : CX) (g : Int) : CX :=
  match firstW c.holds g with
  | none => ⟨c.free.set g.toNat (c.free.getD g.toNat 0 + 1), c.holds⟩
  | some k => ⟨c.free, c.holds.set k ⟨wiL (hAt c.holds k).has g, -1⟩⟩
def giveOk (c : CX) (s : Int) : Bool := cvB c && inB s 0 ((c.holds.length : Int) - 1)
def stopG (c : CX) (s : Int) : Bool := (hAt c.holds s.toNat).wait != -1 || (decide ((hAt c.holds s.toNat).has.length = 0) || (hAt c.holds s.toNat).has.any fun g => c.free.getD g.toNat 0 == 9)
def give0 (c : CX) (s : Int) : CX := ⟨c.free, c.holds.set s.toNat hz⟩
def giveY (c : CX) (s : Int) : CX := (hAt c.holds s.toNat).has.foldl giveStep (give0 c s)
def giveC (c : CX) (s : Int) : CX := if giveOk c s then (if stopG c s then c else giveY c s) else cNo
def giveB (c : CX) (s : Int) : Bool := giveOk c s && !stopG c s
structure Gv (c : CX) (s : Int) : Prop where
  cv : Cv c
  s0 : 0 ≤ s
  sl : s.toNat < c.holds.length
  w : (hAt c.holds s.toNat).wait = -1
  p : 0 < (hAt c.holds s.toNat).has.length
  n : ∀ g ∈ (hAt c.holds s.toNat).has, c.free.getD g.toNat 0 ≠ 9
  e : giveC c s = giveY c s
theorem give_yes {c : CX} {s : Int} (h : giveB c s = true) : Gv c s := by
  simp only [giveB, Bool.and_eq_true, Bool.not_eq_true'] at h
  obtain ⟨h1, h2⟩ := h
  have e : giveC c s = giveY c s := by simp [giveC, h1, h2]
  simp only [giveOk, inB, Bool.and_eq_true, decide_eq_true_eq] at h1
  simp only [stopG, Bool.or_eq_false_iff, bne_eq_false_iff_eq, decide_eq_false_iff_not, List.any_eq_false, beq_iff_eq] at h2
  exact ⟨cv_iff.1 h1.1, h1.2.1, by omega, h2.1, by omega, h2.2.2, e⟩
theorem firstW_some {hs : List HX} {g : Int} {k : Nat} (h : firstW hs g = some k) : k < hs.length ∧ (hAt hs k).wait = g ∧ ∀ j, j < k → (hAt hs j).wait ≠ g := by
  unfold firstW at h
  rw [List.findIdx?_eq_some_iff_getElem] at h
  obtain ⟨hk, h1, h2⟩ := h
  refine ⟨hk, ?_, fun j hj => ?_⟩
  · rw [hAt_of (List.getElem?_eq_getElem hk)]; simpa using h1
  · rw [hAt_of (List.getElem?_eq_getElem (by omega))]; simpa using h2 j hj
theorem firstW_none {hs : List HX} {g : Int} : firstW hs g = none ↔ ∀ k, k < hs.length → (hAt hs k).wait ≠ g := by
  unfold firstW
  rw [List.findIdx?_eq_none_iff]
  constructor
  · intro h k hk
    have := h _ (List.mem_of_getElem? (hAt_some hk))
    simpa using this
  · intro h x hx
    obtain ⟨k, hk, rfl⟩ := List.mem_iff_getElem.1 hx
    have := h k hk
    rw [hAt_of (List.getElem?_eq_getElem hk)] at this
    simpa using this
theorem firstW_mk {hs : List HX} {g : Int} {k : Nat} (hk : k < hs.length) (h1 : (hAt hs k).wait = g) (h2 : ∀ j, j < k → (hAt hs j).wait ≠ g) : firstW hs g = some k := by
  cases h : firstW hs g with
  | none => exact absurd h1 (firstW_none.1 h k hk)
  | some j =>
    obtain ⟨a, b, c⟩ := firstW_some h
    have : j = k := by
      rcases Nat.lt_trichotomy j k with e | e | e
      · exact absurd b (h2 j e)
      · exact e
      · exact absurd h1 (c k e)
    rw [this]
theorem firstW_congr {hs hs' : List HX} {g : Int} (hl : hs.length = hs'.length) (h : ∀ k, k < hs.length → ((hAt hs k).wait = g ↔ (hAt hs' k).wait = g)) : firstW hs g = firstW hs' g := by
  cases e : firstW hs' g with
  | none => exact firstW_none.2 fun k hk hw => firstW_none.1 e k (by omega) ((h k hk).1 hw)
  | some k =>
    obtain ⟨a, b, c⟩ := firstW_some e
    exact firstW_mk (by omega) ((h k (by omega)).2 b) fun j hj hw => c j hj ((h j (by omega)).1 hw)
/-- What giving comes to, at once: the senders' states, the free credits. P: the groups given so far. -/
def gHold (P : List Int) (H : List HX) (k : Nat) : HX := if hasB P (hAt H k).wait && (firstW H (hAt H k).wait == some k) then ⟨wiL (hAt H k).has (hAt H k).wait, -1⟩ else hAt H k
def gHolds (P : List Int) (H : List HX) : List HX := (List.range H.length).map (gHold P H)
def gFree (P : List Int) (H : List HX) (free : List Int) : List Int := (List.range 5).map fun (g : Nat) => free.getD g 0 + (if hasB P (g : Int) && (firstW H (g : Int)).isNone then 1 else 0)
theorem gHolds_len (P : List Int) (H : List HX) : (gHolds P H).length = H.length := by simp [gHolds]
theorem gHolds_at (P : List Int) (H : List HX) {k : Nat} (hk : k < H.length) : hAt (gHolds P H) k = gHold P H k := by simp [hAt, gHolds, List.getD_eq_getElem?_getD, hk]
theorem gFree_len (P : List Int) (H : List HX) (free : List Int) : (gFree P H free).length = 5 := by simp [gFree]
theorem gFree_at (P : List Int) (H : List HX) (free : List Int) {g : Nat} (hg : g < 5) : (gFree P H free).getD g 0 = free.getD g 0 + (if hasB P (g : Int) && (firstW H (g : Int)).isNone then 1 else 0) := by
  simp [gFree, List.getD_eq_getElem?_getD, hg]
theorem hasB_snoc (P : List Int) (g x : Int) : hasB (P ++ [g]) x = (hasB P x || g == x) := by simp [hasB]
theorem give_step {P : List Int} {H : List HX} {free : List Int} {g : Int} (hg0 : 0 ≤ g) (hg4 : g ≤ 4) (hn : g ∉ P) : giveStep ⟨gFree P H free, gHolds P H⟩ g = ⟨gFree (P ++ [g]) H free, gHolds (P ++ [g]) H⟩ := by
  have hnB : hasB P g = false := hasB_no.2 hn
  have hwait : ∀ k, k < H.length → ((hAt (gHolds P H) k).wait = g ↔ (hAt H k).wait = g) := fun k hk => by
    rw [gHolds_at P H hk]
    unfold gHold
    split
    · rename_i hh
      simp only [Bool.and_eq_true, hasB_iff] at hh
      constructor
      · intro e; simp only at e; omega
      · intro e; rw [e] at hh; exact absurd hh.1 hn
    · exact Iff.rfl
  have hfw : firstW (gHolds P H) g = firstW H g := firstW_congr (gHolds_len _ _) (by rw [gHolds_len]; exact hwait)
  obtain ⟨G, rfl⟩ := Int.eq_ofNat_of_zero_le hg0
  unfold giveStep
  simp only [hfw]
  cases hf : firstW H (G : Int) with
  | none =>
    simp only
    congr 1
    · refine ext5 (by simp [gFree_len]) (gFree_len _ _ _) fun k hk => ?_
      rw [getD_set5 (by rw [gFree_len]; omega), gFree_at P _ _ hk, Int.toNat_natCast, gFree_at P _ _ (show G < 5 by omega), gFree_at (P ++ [(G : Int)]) _ _ hk, hnB, hasB_snoc]
      by_cases e : G = k
      · subst e
        rw [if_pos rfl, hnB, hf]; simp
      · rw [if_neg e]
        have : ((G : Int) == (k : Int)) = false := by rw [beq_eq_false_iff_ne]; omega
        rw [this, Bool.or_false]
    · refine hs_ext (by rw [gHolds_len, gHolds_len]) fun k hk => ?_
      rw [gHolds_len] at hk
      rw [gHolds_at P _ hk, gHolds_at (P ++ [(G : Int)]) _ hk]
      unfold gHold
      rw [hasB_snoc]
      have hw := firstW_none.1 hf k hk
      have : ((G : Int) == (hAt H k).wait) = false := by rw [beq_eq_false_iff_ne]; exact fun e => hw e.symm
      rw [this, Bool.or_false]
  | some j =>
    obtain ⟨hj, hjw, hjf⟩ := firstW_some hf
    have hlj : j < (gHolds P H).length := by rw [gHolds_len]; exact hj
    have hjat : hAt (gHolds P H) j = hAt H j := by
      rw [gHolds_at _ _ hj]; unfold gHold; rw [hjw, hnB]; simp
    simp only
    congr 1
    · refine ext5 (gFree_len _ _ _) (gFree_len _ _ _) fun k hk => ?_
      rw [gFree_at _ _ _ hk, gFree_at _ _ _ hk, hasB_snoc]
      by_cases e : G = k
      · subst e
        rw [hf]; simp
      · have : ((G : Int) == (k : Int)) = false := by rw [beq_eq_false_iff_ne]; omega
        rw [this, Bool.or_false]
    · refine hs_ext (by simp [gHolds_len]) fun k hk => ?_
      have hk' : k < H.length := by simpa [gHolds_len] using hk
      rw [hAt_set hlj, gHolds_at (P ++ [(G : Int)]) _ hk', hjat]
      by_cases e : j = k
      · subst e
        rw [if_pos rfl]
        unfold gHold
        rw [hjw, hf, hasB_snoc]
        simp
      · rw [if_neg e, gHolds_at P _ hk']
        unfold gHold
        rw [hasB_snoc]
        by_cases hw : (hAt H k).wait = (G : Int)
        · rw [hw, hf, hnB]
          have : (some j == some k) = false := by simp [e]
          rw [this]; simp
        · have : ((G : Int) == (hAt H k).wait) = false := by rw [beq_eq_false_iff_ne]; exact fun h => hw h.symm
          rw [this, Bool.or_false]
theorem give_fold {H : List HX} {free : List Int} : ∀ (Q P : List Int), (∀ g ∈ Q, 0 ≤ g ∧ g ≤ 4) → (P ++ Q).Pairwise (· < ·) → Q.foldl giveStep ⟨gFree P H free, gHolds P H⟩ = ⟨gFree (P ++ Q) H free, gHolds (P ++ Q) H⟩
  | [], P, _, _ => by simp
  | g :: Q, P, hm, hp => by
    have hn : g ∉ P := fun hg => by
      have := (List.pairwise_append.1 hp).2.2 g hg g (by simp); omega
    rw [List.foldl_cons, give_step (hm g (by simp)).1 (hm g (by simp)).2 hn, give_fold Q (P ++ [g]) (fun x hx => hm x (by simp [hx])) (by simpa using hp)]
    simp
theorem gFree_nil {H : List HX} {free : List Int} (hf : free.length = 5) : gFree [] H free = free := ext5 (gFree_len _ _ _) hf fun k hk => by rw [gFree_at _ _ _ hk]; simp [hasB]
theorem gHolds_nil (H : List HX) : gHolds [] H = H := hs_ext (gHolds_len _ _) fun k hk => by
  rw [gHolds_len] at hk
  rw [gHolds_at _ _ hk]; simp [gHold, hasB]
/-- What giving comes to. -/
theorem give_is {c : CX} {s : Int} (h : Gv c s) : giveY c s = ⟨gFree (hAt c.holds s.toNat).has (c.holds.set s.toNat hz) c.free, gHolds (hAt c.holds s.toNat).has (c.holds.set s.toNat hz)⟩ := by
  have hS := h.cv.at_ h.sl
  have := give_fold (H := c.holds.set s.toNat hz) (free := c.free) (hAt c.holds s.toNat).has [] hS.m (by simpa using hS.p)
  rw [gFree_nil h.cv.f, gHolds_nil] at this
  simpa [giveY, give0] using this
end Go.Proofs.Ytehgipbedlamaaa
