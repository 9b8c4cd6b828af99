/- Plain lists and numbers: what the program's functions and the reference's compute. -/
import Derived.Test.YtnooegfhffhfpaaP0
import Derived.Test.YtnooegfhffhfpaaPIb
import Derived.Test.YtnooegfhffhfpaaPSa
import Derived.Test.YtnooegfhffhfpaaQBaseF
import Derived.Test.YtnooegfhffhfpaaQBaseH
namespace Go.Proofs.Ytnooegfhffhfpaa.Q
open Go.RowKit Go.Proofs.Ytnooegfhffhfpaa.P Go.Proofs.YtnooegfhffhfpaaW.PrintWords Go.Proofs.YtnooegfhffhfpaaW.PrintLast Go.Proofs.YtnooegfhffhfpaaW.PrintMore
set_option linter.unusedVariables false
set_option linter.unusedSimpArgs false

/-- The tile with two numbers. -/
def mkT (a b : Int) : S39 := ⟨if a < b then a else b, if a < b then b else a⟩
theorem tiOf_some (a b : Int) : spec_tiOf.f a b = some ((mkT a b).f0, (mkT a b).f1) := by
  unfold spec_tiOf.f spec_l1Least.f spec_l1Most.f mkT
  by_cases h : a < b
  · rw [if_pos h, if_neg (by omega), if_pos h, if_pos h]; rfl
  · rw [if_neg h, if_neg h, if_neg h]
    by_cases h2 : a > b
    · rw [if_pos h2]; rfl
    · rw [if_neg h2]; obtain rfl : a = b := by omega
      rfl
theorem mkT_comm (a b : Int) : mkT a b = mkT b a := by
  unfold mkT
  by_cases h : a < b
  · rw [if_pos h, if_pos h, if_neg (by omega), if_neg (by omega)]
  · rw [if_neg h, if_neg h]
    by_cases h2 : b < a
    · rw [if_pos h2, if_pos h2]
    · obtain rfl : a = b := by omega
      rw [if_neg h2]
theorem mkT_good (a b : Int) (ha : 0 ≤ a ∧ a ≤ 9) (hb : 0 ≤ b ∧ b ≤ 9) : goodT (mkT a b) = true := by
  rw [goodT_iff]; unfold mkT; simp only; split <;> omega
/-! ### a whole chain can always go on -/
def InT (h : List S39) (n : Int) : Prop := ∃ t ∈ h, t.f0 = n ∨ t.f1 = n
theorem mkT_ends (n m : Int) : ((mkT n m).f0 = n ∧ (mkT n m).f1 = m) ∨ ((mkT n m).f0 = m ∧ (mkT n m).f1 = n) := by
  unfold mkT
  by_cases h : n < m
  · left; simp only; rw [if_pos h, if_pos h]; exact ⟨rfl, rfl⟩
  · right; simp only; rw [if_neg h, if_neg h]; exact ⟨rfl, rfl⟩
theorem mkT_of {t : S39} (hg : goodT t = true) {n : Int} (h : t.f0 = n ∨ t.f1 = n) : ∃ m, t = mkT n m ∧ 0 ≤ m ∧ m ≤ 9 := by
  have g := (goodT_iff t).1 hg
  obtain ⟨a, b⟩ := t
  simp only at h g
  rcases h with h | h
  · subst h
    refine ⟨b, ?_, by omega, by omega⟩
    unfold mkT
    by_cases c : a < b
    · rw [if_pos c, if_pos c]
    · rw [if_neg c, if_neg c]
      obtain rfl : a = b := by omega
      rfl
  · subst h
    refine ⟨a, ?_, by omega, by omega⟩
    unfold mkT
    rw [if_neg (by omega), if_neg (by omega)]
theorem conn_edge {h : List S39} {n m : Int} (hm : mkT n m ∈ h) : Conn h n m := by
  rcases mkT_ends n m with ⟨a, b⟩ | ⟨a, b⟩
  · have : Conn h (mkT n m).f0 (mkT n m).f1 := .fwd _ (.refl _) hm
    rw [a, b] at this; exact this
  · have : Conn h (mkT n m).f1 (mkT n m).f0 := .bwd _ (.refl _) hm
    rw [a, b] at this; exact this
theorem conn_self {h : List S39} {t : S39} (ht : t ∈ h) : Conn h t.f0 t.f1 := .fwd t (.refl _) ht
theorem timesT_erase {h : List S39} {t : S39} (ht : t ∈ h) (v : Int) : timesT h v = timesT (h.erase t) v + ((if t.f0 = v then 1 else 0) + (if t.f1 = v then 1 else 0)) := by
  induction h with
  | nil => cases ht
  | cons x h ih =>
    by_cases e : x = t
    · subst e
      rw [List.erase_cons_head]; simp only [timesT]; omega
    · rw [List.erase_cons_tail (by simpa using e)]
      have := ih ((List.mem_cons.1 ht).resolve_left (fun c => e c.symm))
      simp only [timesT]
      omega
/-- The odd numbers are n and x, or there are none and n = x. -/
def Par (h : List S39) (n x : Int) : Prop := ∀ v, timesT h v % 2 = ((if n = v then 1 else 0) + (if x = v then 1 else 0)) % 2
theorem Par.step {h : List S39} {n m x : Int} (H : Par h n x) (hm : mkT n m ∈ h) : Par (h.erase (mkT n m)) m x := by
  intro v
  have h1 := H v
  have h2 := timesT_erase hm v
  rcases mkT_ends n m with ⟨a, b⟩ | ⟨a, b⟩ <;> rw [a, b] at h2 <;> split at h2 <;> split at h2 <;> simp_all <;> omega
theorem sum_closed (C : Int → Bool) : ∀ h : List S39, (∀ t ∈ h, goodT t = true ∧ C t.f0 = C t.f1) → sumF (fun v => if C v then timesT h v else 0) (upFrom 0 10) % 2 = 0
  | [], _ => by
    have : ∀ l, sumF (fun v => if C v then timesT [] v else 0) l = 0 := by
      intro l
      induction l with
      | nil => rfl
      | cons a l ih => rw [sumF, ih]; simp only [timesT]; split <;> rfl
    rw [this]; rfl
  | t :: h, ht => by
    have ih := sum_closed C h fun x hx => ht x (List.mem_cons_of_mem _ hx)
    obtain ⟨g, hc⟩ := ht t List.mem_cons_self
    have g := (goodT_iff t).1 g
    have e : (fun v => if C v then timesT (t :: h) v else 0) = fun v => (fun v => (fun v => if t.f0 = v then (if C t.f0 then 1 else 0) else 0) v + (fun v => if t.f1 = v then (if C t.f1 then 1 else 0) else 0) v) v + (fun v => if C v then timesT h v else 0) v := by
      funext v
      simp only [timesT]
      by_cases c0 : t.f0 = v
      · subst c0
        by_cases c1 : t.f1 = t.f0
        · rw [c1]; simp; split <;> omega
        · rw [if_neg c1, if_neg c1]; simp; split <;> omega
      · rw [if_neg c0, if_neg c0]
        by_cases c1 : t.f1 = v
        · subst c1; simp; split <;> omega
        · rw [if_neg c1, if_neg c1]; simp
    have one : ∀ (a x : Int) (d i : Nat), sumF (fun v => if a = v then x else 0) (upFrom i d) = if (i : Int) ≤ a ∧ a < (i + d : Nat) then x else 0 := by
      intro a x d
      induction d with
      | zero => intro i; rw [if_neg (by omega)]; rfl
      | succ d ih =>
        intro i
        rw [upFrom, sumF, ih (i + 1)]
        by_cases c : a = (i : Int)
        · rw [if_pos c, if_neg (by omega), if_pos (by omega)]; omega
        · rw [if_neg c]
          by_cases c2 : (i : Int) ≤ a ∧ a < (i + (d + 1) : Nat)
          · rw [if_pos c2, if_pos (by omega)]; omega
          · rw [if_neg c2, if_neg (by omega)]; rfl
    have r0 : ((0 : Nat) : Int) ≤ t.f0 ∧ t.f0 < ((0 + 10 : Nat) : Int) := by omega
    have r1 : ((0 : Nat) : Int) ≤ t.f1 ∧ t.f1 < ((0 + 10 : Nat) : Int) := by omega
    rw [e, sumF_add, sumF_add, one t.f0, one t.f1, if_pos r0, if_pos r1, hc]
    split <;> omega
open Classical in
theorem bridge_end {h : List S39} {m x : Int} (hg : ∀ t ∈ h, goodT t = true) (H : Par h m x) (hm : 0 ≤ m ∧ m ≤ 9) : Conn h m x := by
  have hC := sum_closed (fun v => decide (Conn h m v)) h fun t ht => ⟨hg t ht, by
    rw [decide_eq_decide]
    exact ⟨fun c => .fwd t c ht, fun c => .bwd t c ht⟩⟩
  apply Classical.byContradiction
  intro hno
  have key : ∀ l : List Int, l.Nodup → sumF (fun v => if decide (Conn h m v) = true then timesT h v else 0) l % 2 = (if m ∈ l then 1 else 0) % 2 := by
    intro l
    induction l with
    | nil => intro _; rfl
    | cons a l ih =>
      intro hn
      obtain ⟨h1, h2⟩ := List.nodup_cons.1 hn
      have ih := ih h2
      simp only [sumF]
      by_cases c : Conn h m a
      · rw [if_pos (decide_eq_true c)]
        have ha := H a
        have hxa : x ≠ a := fun e => hno (e ▸ c)
        rw [if_neg hxa] at ha
        by_cases e : m = a
        · subst e
          rw [if_pos rfl] at ha
          rw [if_neg h1] at ih
          rw [if_pos List.mem_cons_self]; omega
        · rw [if_neg e] at ha
          have : (m ∈ a :: l) ↔ m ∈ l := by rw [List.mem_cons]; exact ⟨fun c => c.resolve_left e, .inr⟩
          simp only [this]; omega
      · rw [if_neg (by simpa using c)]
        have e : m ≠ a := fun e => c (e ▸ .refl _)
        have : (m ∈ a :: l) ↔ m ∈ l := by rw [List.mem_cons]; exact ⟨fun c => c.resolve_left e, .inr⟩
        simp only [this]; omega
  have hk := key (upFrom 0 10) (by decide)
  rw [if_pos ((mem_upFrom 10 0 m).2 (by omega))] at hk
  omega
theorem conn_nums {h : List S39} {a b : Int} (c : Conn h a b) : a = b ∨ InT h a := by
  have : ∀ {u v : Int}, Conn h u v → u = v ∨ (InT h u ∧ InT h v) := by
    intro u v c
    induction c with
    | refl => exact .inl rfl
    | fwd t _ ht ih =>
      rcases ih with e | e
      · exact .inr ⟨⟨t, ht, .inl e.symm⟩, ⟨t, ht, .inr rfl⟩⟩
      · exact .inr ⟨e.1, ⟨t, ht, .inr rfl⟩⟩
    | bwd t _ ht ih =>
      rcases ih with e | e
      · exact .inr ⟨⟨t, ht, .inr e.symm⟩, ⟨t, ht, .inl rfl⟩⟩
      · exact .inr ⟨e.1, ⟨t, ht, .inl rfl⟩⟩
  rcases this c with e | e
  · exact .inl e
  · exact .inr e.1
/-- A number from which the tiles can be laid as one chain. -/
def From (h : List S39) (n : Int) : Prop := h = [] ∨ (InT h n ∧ ∀ t ∈ h, Conn h n t.f0)
theorem from_rest {h : List S39} {n m : Int} (h1 : ∀ t ∈ h, Conn h n t.f0) (hb : ∀ u, Conn h n u → u = n ∨ Conn (h.erase (mkT n m)) m u) (hn : Conn (h.erase (mkT n m)) m n ∨ ¬ InT (h.erase (mkT n m)) n) : From (h.erase (mkT n m)) m := by
  by_cases hr : h.erase (mkT n m) = []
  · exact .inl hr
  · right
    have hall : ∀ t ∈ h.erase (mkT n m), Conn (h.erase (mkT n m)) m t.f0 := by
      intro t ht
      rcases hb t.f0 (h1 t (List.mem_of_mem_erase ht)) with e | e
      · rcases hn with c | c
        · rw [e]; exact c
        · exact absurd ⟨t, ht, .inl e⟩ c
      · exact e
    refine ⟨?_, hall⟩
    obtain ⟨u, hu⟩ := List.exists_mem_of_ne_nil _ hr
    rcases conn_nums (hall u hu) with e | e
    · exact ⟨u, hu, .inl e.symm⟩
    · exact e
theorem from_good {h : List S39} {n m : Int} (h1 : ∀ t ∈ h, Conn h n t.f0) (hc : Conn (h.erase (mkT n m)) m n) : From (h.erase (mkT n m)) m := by
  refine from_rest h1 (fun u hu => .inr ?_) (.inl hc)
  induction hu with
  | refl => exact hc
  | fwd t _ ht ih =>
    by_cases e : t = mkT n m
    · rcases mkT_ends n m with ⟨a, b⟩ | ⟨a, b⟩
      · rw [e, b]; exact .refl _
      · rw [e, b]; exact hc
    · exact .fwd t ih ((List.mem_erase_of_ne e).2 ht)
  | bwd t _ ht ih =>
    by_cases e : t = mkT n m
    · rcases mkT_ends n m with ⟨a, b⟩ | ⟨a, b⟩
      · rw [e, a]; exact hc
      · rw [e, a]; exact .refl _
    · exact .bwd t ih ((List.mem_erase_of_ne e).2 ht)
theorem from_alone {h : List S39} {n m : Int} (h1 : ∀ t ∈ h, Conn h n t.f0) (ha : ∀ t ∈ h.erase (mkT n m), t.f0 ≠ n ∧ t.f1 ≠ n) : From (h.erase (mkT n m)) m := by
  refine from_rest h1 (fun u hu => ?_) (.inr fun ⟨t, ht, c⟩ => c.elim (ha t ht).1 (ha t ht).2)
  induction hu with
  | refl => exact .inl rfl
  | fwd t _ ht ih =>
    by_cases e : t = mkT n m
    · rcases mkT_ends n m with ⟨a, b⟩ | ⟨a, b⟩
      · rw [e, b]; exact .inr (.refl _)
      · rw [e, b]; exact .inl rfl
    · have he := (List.mem_erase_of_ne e).2 ht
      rcases ih with c | c
      · exact absurd c (ha t he).1
      · exact .inr (.fwd t c he)
  | bwd t _ ht ih =>
    by_cases e : t = mkT n m
    · rcases mkT_ends n m with ⟨a, b⟩ | ⟨a, b⟩
      · rw [e, a]; exact .inl rfl
      · rw [e, a]; exact .inr (.refl _)
    · have he := (List.mem_erase_of_ne e).2 ht
      rcases ih with c | c
      · exact absurd c (ha t he).2
      · exact .inr (.bwd t c he)
/-- What is reached without n is reached without the tiles at n. -/
theorem conn_avoid {h : List S39} {n m m2 y : Int} (hno : ¬ Conn h m n) (c : Conn h m y) : Conn (h.erase (mkT n m2)) m y := by
  induction c with
  | refl => exact .refl _
  | fwd t c ht ih =>
    by_cases e : t = mkT n m2
    · exfalso
      rcases mkT_ends n m2 with ⟨a, b⟩ | ⟨a, b⟩
      · rw [e, a] at c; exact hno c
      · have := Conn.fwd t c ht
        rw [e, b] at this; exact hno this
    · exact .fwd t ih ((List.mem_erase_of_ne e).2 ht)
  | bwd t c ht ih =>
    by_cases e : t = mkT n m2
    · exfalso
      rcases mkT_ends n m2 with ⟨a, b⟩ | ⟨a, b⟩
      · have := Conn.bwd t c ht
        rw [e, a] at this; exact hno this
      · rw [e, b] at c; exact hno c
    · exact .bwd t ih ((List.mem_erase_of_ne e).2 ht)
theorem step_exists {h : List S39} {n x : Int} (hg : ∀ t ∈ h, goodT t = true) (hF : From h n) (hne : h ≠ []) (hP : Par h n x) : ∃ m, 0 ≤ m ∧ m ≤ 9 ∧ mkT n m ∈ h ∧ From (h.erase (mkT n m)) m := by
  obtain ⟨⟨t, ht, hnt⟩, h1⟩ := hF.resolve_left hne
  obtain ⟨m, rfl, hm⟩ := mkT_of (hg t ht) hnt
  have hge : ∀ (s : S39), ∀ t ∈ h.erase s, goodT t = true := fun s t ht => hg t (List.mem_of_mem_erase ht)
  by_cases hc : Conn (h.erase (mkT n m)) m n
  · exact ⟨m, hm.1, hm.2, ht, from_good h1 hc⟩
  by_cases ha : ∀ t ∈ h.erase (mkT n m), t.f0 ≠ n ∧ t.f1 ≠ n
  · exact ⟨m, hm.1, hm.2, ht, from_alone h1 ha⟩
  have : ∃ t2, t2 ∈ h.erase (mkT n m) ∧ (t2.f0 = n ∨ t2.f1 = n) := by
    apply Classical.byContradiction
    intro hno
    exact ha fun t ht => ⟨fun e => hno ⟨t, ht, .inl e⟩, fun e => hno ⟨t, ht, .inr e⟩⟩
  obtain ⟨t2, ht2, hnt2⟩ := this
  have ht2h := List.mem_of_mem_erase ht2
  obtain ⟨m2, rfl, hm2⟩ := mkT_of (hg t2 ht2h) hnt2
  by_cases hc2 : Conn (h.erase (mkT n m2)) m2 n
  · exact ⟨m2, hm2.1, hm2.2, ht2h, from_good h1 hc2⟩
  exfalso
  have p1 := bridge_end (hge _) (hP.step ht) hm
  have p2 := bridge_end (hge _) (hP.step ht2h) hm2
  have q1 : Conn ((h.erase (mkT n m)).erase (mkT n m2)) m x := conn_avoid hc p1
  have q2 : Conn ((h.erase (mkT n m)).erase (mkT n m2)) m2 x := by
    rw [List.erase_comm]; exact conn_avoid hc2 p2
  have q3 : Conn (h.erase (mkT n m)) m m2 := (q1.trans q2.symm).congr fun x hx => List.mem_of_mem_erase hx
  have := (conn_edge ht2).symm
  exact hc (q3.trans this)

end Go.Proofs.Ytnooegfhffhfpaa.Q
