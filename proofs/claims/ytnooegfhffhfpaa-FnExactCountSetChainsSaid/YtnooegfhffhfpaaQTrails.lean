/- Plain lists and numbers: what the program's functions and the reference's compute. -/
import Derived.Test.YtnooegfhffhfpaaP0
import Derived.Test.YtnooegfhffhfpaaQBaseF
import Derived.Test.YtnooegfhffhfpaaQBaseH
import Derived.Test.YtnooegfhffhfpaaQFleury
import Derived.Test.YtnooegfhffhfpaaQWalkC
namespace Go.Proofs.Ytnooegfhffhfpaa.Q
open Go.RowKit Go.Proofs.Ytnooegfhffhfpaa.P Go.Proofs.YtnooegfhffhfpaaW.PrintWords Go.Proofs.YtnooegfhffhfpaaW.PrintLast Go.Proofs.YtnooegfhffhfpaaW.PrintMore
set_option linter.unusedVariables false
set_option linter.unusedSimpArgs false

theorem wrap_dvd (x : Int) : ∃ q, wrap64 x = x + 18446744073709551616 * q := by
  refine ⟨-((x + 9223372036854775808) / 18446744073709551616), ?_⟩
  unfold wrap64; omega
theorem wrap_cong {x y : Int} (q : Int) (h : x = y + 18446744073709551616 * q) : wrap64 x = wrap64 y := by
  unfold wrap64; omega
theorem wrap_idem (x : Int) : wrap64 (wrap64 x) = wrap64 x := by
  obtain ⟨q, hq⟩ := wrap_dvd x
  exact wrap_cong q hq
theorem wrap_addl (x y : Int) : wrap64 (wrap64 x + y) = wrap64 (x + y) := by
  obtain ⟨q, hq⟩ := wrap_dvd x
  exact wrap_cong q (by omega)
theorem wrap_addr (x y : Int) : wrap64 (x + wrap64 y) = wrap64 (x + y) := by
  rw [Int.add_comm, wrap_addl, Int.add_comm]
theorem wrap_mull (x y : Int) : wrap64 (wrap64 x * y) = wrap64 (x * y) := by
  obtain ⟨q, hq⟩ := wrap_dvd x
  exact wrap_cong (q * y) (by rw [hq, Int.add_mul, Int.mul_assoc])
theorem wrap_mulr (x y : Int) : wrap64 (x * wrap64 y) = wrap64 (x * y) := by
  rw [Int.mul_comm, wrap_mull, Int.mul_comm]
/-! ### sums -/
theorem sumF_congr {f g : Int → Int} : ∀ l : List Int, (∀ x ∈ l, f x = g x) → sumF f l = sumF g l
  | [], _ => rfl
  | n :: l, h => by rw [sumF, sumF, h n List.mem_cons_self, sumF_congr l fun x hx => h x (List.mem_cons_of_mem _ hx)]
theorem sumF_zero {f : Int → Int} (l : List Int) (h : ∀ x ∈ l, f x = 0) : sumF f l = 0 := by
  induction l with
  | nil => rfl
  | cons n l ih => rw [sumF, h n List.mem_cons_self, ih fun x hx => h x (List.mem_cons_of_mem _ hx)]; rfl
theorem sumF_single {f : Int → Int} {q : Int} : ∀ l : List Int, l.Nodup → q ∈ l → (∀ x ∈ l, x ≠ q → f x = 0) → sumF f l = f q
  | [], _, h, _ => by cases h
  | n :: l, hn, hq, h0 => by
    rw [sumF]
    have hnd := List.nodup_cons.1 hn
    by_cases e : n = q
    · subst e
      rw [sumF_zero l fun x hx => h0 x (List.mem_cons_of_mem _ hx) fun c => hnd.1 (c ▸ hx)]; omega
    · rw [h0 n List.mem_cons_self e, sumF_single l hnd.2 (by rcases List.mem_cons.1 hq with c | c; exact absurd c.symm e; exact c) fun x hx => h0 x (List.mem_cons_of_mem _ hx)]; omega
theorem sumF_mul (c : Int) (f : Int → Int) : ∀ l, sumF (fun n => c * f n) l = c * sumF f l
  | [] => by simp [sumF]
  | n :: l => by rw [sumF, sumF, sumF_mul c f l, Int.mul_add]
theorem sumF_ne {f : Int → Int} : ∀ l : List Int, sumF f l ≠ 0 → ∃ x ∈ l, f x ≠ 0
  | [], h => absurd rfl h
  | n :: l, h => by
    by_cases c : f n = 0
    · rw [sumF, c, Int.zero_add] at h
      obtain ⟨x, hx, e⟩ := sumF_ne l h
      exact ⟨x, List.mem_cons_of_mem _ hx, e⟩
    · exact ⟨n, List.mem_cons_self, c⟩
def sumL (g : S39 → Int) : List S39 → Int
  | [] => 0
  | t :: l => g t + sumL g l
theorem sumL_append (g : S39 → Int) (t : S39) : ∀ l, sumL g (l ++ [t]) = sumL g l + g t
  | [] => by simp [sumL]
  | x :: l => by rw [List.cons_append, sumL, sumL, sumL_append g t l]; omega
theorem sumL_congr {f g : S39 → Int} : ∀ l : List S39, (∀ x ∈ l, f x = g x) → sumL f l = sumL g l
  | [], _ => rfl
  | n :: l, h => by rw [sumL, sumL, h n List.mem_cons_self, sumL_congr l fun x hx => h x (List.mem_cons_of_mem _ hx)]
/-! ### whole chains -/
/-- The sum of f over the whole chains of the tiles h, from the number n on. -/
def sumT (f : List Int → Int) : Nat → Int → List Int → List S39 → Int
  | 0, _, chain, _ => f chain
  | d + 1, n, chain, h => sumF (fun m => if mkT n m ∈ h then sumT f d m (chain ++ [m]) (h.erase (mkT n m)) else 0) (upFrom 0 10)
/-- The number of the whole chains of the tiles h from the number n on. -/
def cntT : Nat → Int → List S39 → Int
  | 0, _, _ => 1
  | d + 1, n, h => sumF (fun m => if mkT n m ∈ h then cntT d m (h.erase (mkT n m)) else 0) (upFrom 0 10)
/-- A whole chain of the tiles h behind the number n; x is its last number. -/
inductive Trail : List S39 → Int → List Int → Int → Prop
  | nil (n : Int) : Trail [] n [] n
  | cons {h : List S39} {n m x : Int} {r : List Int} (hm : mkT n m ∈ h) (h0 : 0 ≤ m ∧ m ≤ 9) (ht : Trail (h.erase (mkT n m)) m r x) : Trail h n (m :: r) x
theorem mem_up (m : Int) : m ∈ upFrom 0 10 ↔ 0 ≤ m ∧ m ≤ 9 := by rw [mem_upFrom]; omega
theorem sumT_const {f : List Int → Int} {c : Int} : ∀ (d : Nat) (n : Int) (chain : List Int) (h : List S39), h.length = d → (∀ r x, Trail h n r x → f (chain ++ r) = c) → sumT f d n chain h = c * cntT d n h
  | 0, n, chain, h, hd, hf => by
    obtain rfl := List.length_eq_zero_iff.1 hd
    have := hf [] n (.nil n)
    rw [List.append_nil] at this
    simp [sumT, cntT, this]
  | d + 1, n, chain, h, hd, hf => by
    rw [sumT, cntT, ← sumF_mul]
    apply sumF_congr
    intro m hm
    by_cases c0 : mkT n m ∈ h
    · rw [if_pos c0, if_pos c0]
      exact sumT_const d m (chain ++ [m]) _ (by rw [List.length_erase_of_mem c0]; omega) fun r x ht => by
        have := hf (m :: r) x (.cons c0 ((mem_up m).1 hm) ht)
        rw [← this, List.append_assoc]; rfl
    · rw [if_neg c0, if_neg c0, Int.mul_zero]
theorem cntT_trail : ∀ (d : Nat) (n : Int) (h : List S39), h.length = d → cntT d n h ≠ 0 → ∃ r x, Trail h n r x
  | 0, n, h, hd, _ => by
    obtain rfl := List.length_eq_zero_iff.1 hd
    exact ⟨[], n, .nil n⟩
  | d + 1, n, h, hd, hc => by
    rw [cntT] at hc
    obtain ⟨m, hm, e⟩ := sumF_ne _ hc
    by_cases c0 : mkT n m ∈ h
    · rw [if_pos c0] at e
      obtain ⟨r, x, ht⟩ := cntT_trail d m _ (by rw [List.length_erase_of_mem c0]; omega) e
      exact ⟨m :: r, x, .cons c0 ((mem_up m).1 hm) ht⟩
    · rw [if_neg c0] at e; exact absurd rfl e
theorem Trail.last {h : List S39} {n x : Int} {r : List Int} (ht : Trail h n r x) (hn : 0 ≤ n ∧ n ≤ 9) : 0 ≤ x ∧ x ≤ 9 := by
  induction ht with
  | nil => exact hn
  | cons _ h0 _ ih => exact ih h0
theorem mkT_times (n m v : Int) : ((if (mkT n m).f0 = v then 1 else 0) + (if (mkT n m).f1 = v then 1 else 0) : Int) = (if n = v then 1 else 0) + (if m = v then 1 else 0) := by
  rcases mkT_ends n m with ⟨a, b⟩ | ⟨a, b⟩ <;> rw [a, b]
  omega
theorem Trail.count {h : List S39} {n x : Int} {r : List Int} (ht : Trail h n r x) (v : Int) : 2 * ((n :: r).count v : Int) = timesT h v + ((if n = v then 1 else 0) + (if x = v then 1 else 0)) := by
  induction ht with
  | nil n =>
    rw [List.count_cons, List.count_nil, timesT]
    by_cases c : n = v
    · simp [c]
    · simp [c]
  | @cons h n m x r hm h0 ht ih =>
    rw [List.count_cons, timesT_erase hm v, mkT_times]
    by_cases c : n = v
    · subst c
      simp at ih ⊢
      omega
    · simp [c] at ih ⊢
      omega
theorem Trail.par {h : List S39} {n x : Int} {r : List Int} (ht : Trail h n r x) : Par h n x := by
  intro v
  have := ht.count v
  omega
theorem Trail.from_ {h : List S39} {n x : Int} {r : List Int} (ht : Trail h n r x) : From h n := by
  induction ht with
  | nil => exact .inl rfl
  | @cons h n m x r hm h0 ht ih =>
    refine .inr ⟨⟨_, hm, (mkT_ends n m).elim (fun c => .inl c.1) fun c => .inr c.2⟩, fun t htm => ?_⟩
    have hnm := conn_edge hm
    by_cases c : t = mkT n m
    · subst c
      rcases mkT_ends n m with ⟨a, b⟩ | ⟨a, b⟩
      · rw [a]; exact .refl _
      · rw [a]; exact hnm
    · have hte : t ∈ h.erase (mkT n m) := (List.mem_erase_of_ne c).2 htm
      rcases ih with e | ⟨_, e⟩
      · rw [e] at hte; cases hte
      · exact hnm.trans ((e t hte).congr fun y hy => List.mem_of_mem_erase hy)
/-- The number that stands in for a double: how often it is in every whole chain from n. -/
def facT (h : List S39) (n v : Int) : Int := (timesT h v + 1) / 2 + (if oddT h = [] ∧ v = n then 1 else 0)
theorem Trail.fac {h : List S39} {n x : Int} {r : List Int} (ht : Trail h n r x) (hn : 0 ≤ n ∧ n ≤ 9) (v : Int) : ((n :: r).count v : Int) = facT h n v := by
  have hx := ht.last hn
  have hp := ht.par
  have hc := ht.count v
  unfold facT
  by_cases e : n = x
  · subst e
    have ho : oddT h = [] := by
      cases hc : oddT h with
      | nil => rfl
      | cons a l =>
        have : a ∈ oddT h := by rw [hc]; exact List.mem_cons_self
        have h1 := ((mem_oddT h a).1 this).2
        have h2 := hp a
        split at h2 <;> omega
    by_cases c : v = n
    · subst c
      rw [if_pos ⟨ho, rfl⟩]
      rw [if_pos rfl] at hc
      omega
    · rw [if_neg fun q => c q.2]
      rw [if_neg fun q => c q.symm] at hc
      omega
  · have ho : oddT h ≠ [] := by
      intro c
      have : n ∈ oddT h := (mem_oddT h n).2 ⟨hn, by have := hp n; rw [if_pos rfl, if_neg (fun c => e c.symm)] at this; omega⟩
      rw [c] at this; cases this
    rw [if_neg fun q => ho q.1]
    by_cases c1 : n = v
    · rw [if_pos c1, if_neg (fun q => e (c1.trans q.symm))] at hc; omega
    · by_cases c2 : x = v
      · rw [if_neg c1, if_pos c2] at hc; omega
      · rw [if_neg c1, if_neg c2] at hc; omega
def prodI (f : Int → Int) : List Int → Int
  | [] => 1
  | n :: l => f n * prodI f l
theorem prodI_congr {f g : Int → Int} : ∀ l : List Int, (∀ x ∈ l, f x = g x) → prodI f l = prodI g l
  | [], _ => rfl
  | n :: l, h => by rw [prodI, prodI, h n List.mem_cons_self, prodI_congr l fun x hx => h x (List.mem_cons_of_mem _ hx)]
theorem prodI_perm {f : Int → Int} {a b : List Int} (h : a.Perm b) : prodI f a = prodI f b := by
  induction h with
  | nil => rfl
  | cons x _ ih => rw [prodI, prodI, ih]
  | swap x y l => simp only [prodI]; rw [← Int.mul_assoc, ← Int.mul_assoc, Int.mul_comm (f x)]
  | trans _ _ ih1 ih2 => rw [ih1, ih2]
theorem prodI_zero {f : Int → Int} {q : Int} : ∀ l : List Int, q ∈ l → f q = 0 → prodI f l = 0
  | [], h, _ => by cases h
  | n :: l, h, e => by
    rw [prodI]
    rcases List.mem_cons.1 h with c | c
    · rw [← c, e, Int.zero_mul]
    · rw [prodI_zero l c e, Int.mul_zero]
/-- All whole chains of h from n, each in all the ways in which the doubles own can be put into it. -/
theorem sumT_ways {h : List S39} {n : Int} (own : List Int) (hn : 0 ≤ n ∧ n ≤ 9) : sumT (fun ch => prodI (fun v => (ch.count v : Int)) own) h.length n [n] h = prodI (facT h n) own * cntT h.length n h :=
  sumT_const h.length n [n] h rfl fun r x ht => prodI_congr own fun v _ => ht.fac hn v
theorem Same.erase {a b : List S39} (h : Same a b) (t : S39) : Same (a.erase t) (b.erase t) :=
  ⟨h.1.erase t, h.2.1.erase t, fun x => by rw [h.1.mem_erase_iff, h.2.1.mem_erase_iff, h.2.2]⟩
theorem cntT_same : ∀ (d : Nat) (n : Int) {a b : List S39}, Same a b → cntT d n a = cntT d n b
  | 0, _, _, _, _ => rfl
  | d + 1, n, a, b, h => by
    rw [cntT, cntT]
    apply sumF_congr
    intro m _
    by_cases c : mkT n m ∈ a
    · rw [if_pos c, if_pos ((h.2.2 _).1 c), cntT_same d m (h.erase _)]
    · rw [if_neg c, if_neg (fun q => c ((h.2.2 _).2 q))]

end Go.Proofs.Ytnooegfhffhfpaa.Q
