/- Plain lists and numbers: what the program's functions and the reference's compute. -/
import Derived.Test.YtepccigcdbimaaaP0
import Derived.Test.YtepccigcdbimaaaPIb
import Derived.Test.YtepccigcdbimaaaPIz
import Derived.Test.YtepccigcdbimaaaPSz
import Derived.Test.YtepccigcdbimaaaPimplspreadplay
import Derived.Test.YtepccigcdbimaaaPspeclyStateadd
namespace Go.Proofs.Ytepccigcdbimaaa.Q
open Go.RowKit Go.Proofs.Ytepccigcdbimaaa.P Go.Proofs.YtepccigcdbimaaaW.PrintWords Go.Proofs.YtepccigcdbimaaaW.PrintLast Go.Proofs.YtepccigcdbimaaaW.PrintMore
set_option linter.unusedVariables false
set_option linter.unusedSimpArgs false

/-- The program's state and the reference's tell the same spread. -/
structure RelS (s : SprS) (u : LyS) : Prop where
  arms : s.arms = u.arms
  tiles : s.tiles = u.tiles
  sp : s.sp = u.sp
  w0 : s.w0 = (decide (u.wt = 0) || (u.first && !u.l0))
  w1 : s.w1 = (decide (u.wt = 1) || (u.first && !u.l1))
  wt : u.wt = -1 ∨ u.wt = 0 ∨ u.wt = 1
  fw : u.first = true → u.wt = -1
  ng : u.sp < 0 → u.wt = -1 ∧ u.first = false ∧ u.arms.length ≤ 2
  em : u.tiles = [] → u.sp < 0 ∧ u.l0 = false ∧ u.l1 = false
  ln : u.tiles.length ≤ 28
theorem RelS.start : RelS S0S L0S := by
  refine ⟨rfl, rfl, rfl, rfl, rfl, .inl rfl, fun h => (by cases h), fun _ => ⟨rfl, rfl, by simp [L0S]⟩, fun _ => ⟨by simp [L0S], rfl, rfl⟩, by simp [L0S]⟩
theorem RelS.step {s : SprS} {u : LyS} (h : RelS s u) (t : S59) (a : Int) :
    (playS s t a = none ∧ addL u t a = none) ∨ ∃ s' u', playS s t a = some s' ∧ addL u t a = some u' ∧ RelS s' u' ∧ u'.tiles = u.tiles ++ [t] := by
  obtain ⟨arms, tiles, sp, w0, w1⟩ := s
  obtain ⟨uarms, utiles, usp, wt, first, l0, l1⟩ := u
  obtain ⟨e1, e2, e3, e4, e5, hwt, hfw, hng, hem, hln⟩ := h
  simp only at e1 e2 e3 e4 e5 hwt hfw hng hem hln
  subst e1 e2 e3
  unfold playS addL
  simp only
  by_cases c : goodT t = true ∧ t ∉ tiles ∧ tiles.length < 28
  case neg =>
    left
    rw [if_neg c, if_neg (fun c2 => c ⟨c2.1, c2.2.1, by have := c2.2.2; omega⟩)]
    exact ⟨rfl, rfl⟩
  rw [if_pos c, if_pos ⟨c.1, c.2.1, by have := c.2.2; omega⟩]
  have hgt : 0 ≤ t.f0 := (goodT_nums c.1).1
  have hc3 := c.2.2
  by_cases c2 : tiles = []
  · rw [if_pos c2, if_pos c2]
    by_cases c3 : a = 0
    case neg => left; rw [if_neg c3, if_neg c3]; exact ⟨rfl, rfl⟩
    right
    rw [if_pos c3, if_pos c3]
    refine ⟨_, _, rfl, rfl, ?_, rfl⟩
    obtain ⟨q1, q2, q3⟩ := hem c2
    obtain ⟨q4, q5, q6⟩ := hng q1
    subst q2 q3 q4 q5 c2
    have e4' : w0 = false := e4
    have e5' : w1 = false := e5
    subst e4' e5'
    unfold firstS firstL dblB
    by_cases d : (t.f0 == t.f1) = true
    · simp only [d, if_true]
      refine ⟨rfl, rfl, rfl, rfl, rfl, .inl rfl, fun _ => rfl, fun hs => ?_, fun h => ?_, by simp⟩
      · simp only at hs; omega
      · simp at h
    · have d' : (t.f0 == t.f1) = false := by simpa using d
      simp only [d', Bool.false_eq_true, if_false]
      refine ⟨rfl, rfl, rfl, rfl, rfl, .inl rfl, fun h => (by cases h), fun hs => ⟨rfl, rfl, by simp⟩, fun h => ?_, by simp⟩
      simp at h
  · rw [if_neg c2, if_neg c2]
    by_cases c3 : 0 ≤ a ∧ a < arms.length
    case neg => left; rw [if_neg c3, if_neg c3]; exact ⟨rfl, rfl⟩
    rw [if_pos c3, if_pos c3]
    by_cases c4 : hasB2 (rd_T93 arms a).f0 t = true
    case neg => left; rw [if_neg c4, if_neg c4]; exact ⟨rfl, rfl⟩
    right
    rw [if_pos c4, if_pos c4]
    refine ⟨_, _, rfl, rfl, ?_, rfl⟩
    generalize (rd_T93 arms a).f0 = en
    obtain ⟨n, rfl⟩ : ∃ n : Nat, a = n := ⟨a.toNat, by omega⟩
    have hn : n < arms.length := by omega
    rw [Int.toNat_natCast]
    clear c3 c4
    have ha2 : ∀ x : S93, (arms.set n x).length = arms.length := fun x => List.length_set
    have htl : ∀ x : S59, tiles ++ [x] = [] → False := fun x h => by simp at h
    have hle : (tiles ++ [t]).length ≤ 28 := by rw [List.length_append, List.length_singleton]; omega
    have hdn : dblB t = (t.f0 == t.f1) := rfl
    unfold nextS nextL sdA nl0 nl1 cA
    rw [hdn]
    generalize (t.f0 == t.f1) = d
    have hz : n = 0 ∨ n = 1 ∨ 2 ≤ n := by omega
    by_cases hsp : sp < 0
    · obtain ⟨q4, q5, q6⟩ := hng hsp
      subst q4 q5
      have e4' : w0 = false := by simpa using e4
      have e5' : w1 = false := by simpa using e5
      subst e4' e5'
      have hn2 : n = 0 ∨ n = 1 := by omega
      have hsd : decide (sp < 0) = true := decide_eq_true hsp
      have hnn : ¬ t.f0 < 0 := by omega
      have hla := ha2 ⟨t.f0 + t.f1 - en, d, false⟩
      rcases hn2 with rfl | rfl <;> cases d <;> simp only [hsd, Bool.and_true, Bool.and_false, Bool.false_and, Bool.true_and, Bool.or_false, Bool.false_or, decide_true, if_true, Bool.false_eq_true, if_false, Bool.not_false, Bool.not_true] <;>
        refine ⟨by simp, by simp, by simp, by simp, by simp, by simp, by simp, fun hs => ?_, fun h => (htl t h).elim, hle⟩ <;> first | (simp only at hs; omega) | skip
      all_goals exact ⟨by simp, by simp, by simp; omega⟩
    · have hsd : decide (sp < 0) = false := decide_eq_false hsp
      simp only [hsd, Bool.and_false, Bool.false_and, Bool.false_eq_true, if_false, Bool.or_false]
      refine ⟨?_, rfl, rfl, ?_, ?_, ?_, ?_, fun hs => (hsp hs).elim, fun h => (htl t h).elim, hle⟩
      all_goals
        clear htl hle ha2 hng hem hn c c2 hsp hgt hc3 hln
        simp only
        subst e4 e5
        rcases hwt with rfl | rfl | rfl <;> cases first <;> first
          | exact absurd (hfw rfl) (by decide)
          | (clear hfw; rcases hz with rfl | rfl | hz
             · cases l0 <;> cases l1 <;> simp
             · cases l0 <;> cases l1 <;> simp
             · have n0 : decide (n = 0) = false := decide_eq_false (by omega)
               have n1 : decide (n = 1) = false := decide_eq_false (by omega)
               have m0 : decide ((-1 : Int) = (n : Int)) = false := decide_eq_false (by omega)
               have m1 : decide ((0 : Int) = (n : Int)) = false := decide_eq_false (by omega)
               have m2 : decide ((1 : Int) = (n : Int)) = false := decide_eq_false (by omega)
               (try rw [n0]); (try rw [n1]); (try rw [m0]); (try rw [m1]); (try rw [m2]); cases l0 <;> cases l1 <;> simp)
theorem RelS.run : ∀ (l : List S61) {s : SprS} {u : LyS}, RelS s u → (runS l s = none ∧ runL l u = none) ∨ ∃ s' u', runS l s = some s' ∧ runL l u = some u' ∧ RelS s' u' ∧ u'.tiles = u.tiles ++ l.map (·.f0)
  | [], s, u, h => .inr ⟨s, u, rfl, rfl, h, by simp⟩
  | p :: r, s, u, h => by
    unfold runS runL
    rcases h.step p.f0 p.f1 with ⟨h1, h2⟩ | ⟨s1, u1, h1, h2, h3, h4⟩
    · left; rw [h1, h2]; exact ⟨rfl, rfl⟩
    · rw [h1, h2]
      rcases RelS.run r h3 with ⟨k1, k2⟩ | ⟨s', u', k1, k2, k3, k4⟩
      · exact .inl ⟨k1, k2⟩
      · exact .inr ⟨s', u', k1, k2, k3, by rw [k4, h4]; simp⟩
/-- Both states of a list of plays. -/
theorem spread_both (l : List S61) : (runS l S0S = none ∧ readL l = none) ∨ ∃ s u, runS l S0S = some s ∧ readL l = some u ∧ RelS s u ∧ u.tiles.length = l.length := by
  rcases RelS.run l RelS.start with ⟨h1, h2⟩ | ⟨s, u, h1, h2, h3, h4⟩
  · exact .inl ⟨h1, by unfold readL; split; rfl; exact h2⟩
  · have hl : u.tiles.length = l.length := by rw [h4]; simp [L0S]
    have := h3.ln
    exact .inr ⟨s, u, h1, by unfold readL; rw [if_neg (by omega)]; exact h2, h3, hl⟩
theorem runS_append : ∀ (l : List S61) (p : S61) (s : SprS), runS (l ++ [p]) s = (runS l s).bind fun s' => playS s' p.f0 p.f1
  | [], p, s => by simp [runS]
  | q :: r, p, s => by
    simp only [List.cons_append, runS]
    cases playS s q.f0 q.f1 with
    | none => rfl
    | some s1 => exact runS_append r p s1
/-- A play more. -/
theorem spread_more (l : List S61) (p : S61) : (runS (l ++ [p]) S0S).isSome = ((readL l).bind fun u => addL u p.f0 p.f1).isSome := by
  rw [runS_append]
  rcases spread_both l with ⟨h1, h2⟩ | ⟨s, u, h1, h2, h3, h4⟩
  · rw [h1, h2]; rfl
  · rw [h1, h2]
    rcases h3.step p.f0 p.f1 with ⟨k1, k2⟩ | ⟨s', u', k1, k2, k3, k4⟩
    · simp only [Option.bind_some]; rw [k1, k2]; rfl
    · simp only [Option.bind_some]; rw [k1, k2]; rfl
theorem spread_long {l : List S61} {u : LyS} (h : readL l = some u) : l.length ≤ 28 := by
  unfold readL at h
  split at h
  · cases h
  · omega

end Go.Proofs.Ytepccigcdbimaaa.Q
