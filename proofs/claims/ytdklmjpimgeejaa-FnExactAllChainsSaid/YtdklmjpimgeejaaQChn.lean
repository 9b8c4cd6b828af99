/- Plain lists and numbers: what the program's functions and the reference's compute. -/
import Derived.Test.YtdklmjpimgeejaaP0
import Derived.Test.YtdklmjpimgeejaaPIg
import Derived.Test.YtdklmjpimgeejaaPSo
namespace Go.Proofs.Ytdklmjpimgeejaa.Q
open Go.RowKit Go.Proofs.Ytdklmjpimgeejaa.P Go.Proofs.YtdklmjpimgeejaaW.PrintWords Go.Proofs.YtdklmjpimgeejaaW.PrintLast Go.Proofs.YtdklmjpimgeejaaW.PrintMore
set_option linter.unusedVariables false
set_option linter.unusedSimpArgs false

/-! ### all chains in order: both sides go through the same list -/
/-- The chains that begin so, in order. -/
def evs : Nat → List Int → List S45 → List (List Int)
  | 0, _, _ => []
  | m + 1, chain, left => chain :: (List.range 10).flatMap fun (n : Nat) => if fwTile (chain.getLast?.getD 0) (n : Int) ∈ left then evs m (chain ++ [(n : Int)]) (left.erase (fwTile (chain.getLast?.getD 0) (n : Int))) else []
theorem seqB_append {ι σ : Type} (f : ι → σ → σ × Bool) : ∀ (a b : List ι) (s : σ), seqB f (a ++ b) s = if (seqB f a s).2 = true then seqB f b (seqB f a s).1 else ((seqB f a s).1, false)
  | [], b, s => by simp [seqB]
  | n :: a, b, s => by
    by_cases h : (f n s).2 = true
    · have e1 : seqB f (n :: a) s = seqB f a (f n s).1 := by simp only [seqB]; rw [if_pos h]
      have e2 : seqB f (n :: a ++ b) s = seqB f (a ++ b) (f n s).1 := by simp only [List.cons_append, seqB]; rw [if_pos h]
      rw [e1, e2, seqB_append f a b]
    · have e1 : seqB f (n :: a) s = ((f n s).1, false) := by simp only [seqB]; rw [if_neg h]
      have e2 : seqB f (n :: a ++ b) s = ((f n s).1, false) := by simp only [List.cons_append, seqB]; rw [if_neg h]
      rw [e1, e2]; simp
theorem seqB_flatMap {ι κ σ : Type} (F : ι → σ → σ × Bool) (G : κ → σ → σ × Bool) (E : ι → List κ) (h : ∀ n s, F n s = seqB G (E n) s) : ∀ (l : List ι) (s : σ), seqB F l s = seqB G (l.flatMap E) s
  | [], s => rfl
  | n :: l, s => by
    rw [List.flatMap_cons, seqB_append, ← h n s]
    simp only [seqB]
    by_cases c : (F n s).2 = true
    · rw [if_pos c, if_pos c, seqB_flatMap F G E h l]
    · rw [if_neg c, if_neg c]
/-- A chain of one number is no chain of tiles. -/
def eachN {σ : Type} (g : List Int → σ → σ × Bool) (ch : List Int) (s : σ) : σ × Bool := if ch.length > 1 then g ch s else (s, true)
theorem chB_evs {σ : Type} (g : List Int → σ → σ × Bool) : ∀ (m : Nat) (chain : List Int) (left : List S45) (s : σ), chB g m chain left s = seqB (eachN g) (evs m chain left) s
  | 0, _, _, s => rfl
  | m + 1, chain, left, s => by
    have hk : ∀ (n : Nat) (s : σ), (if fwTile (chain.getLast?.getD 0) (n : Int) ∈ left then chB g m (chain ++ [(n : Int)]) (left.erase (fwTile (chain.getLast?.getD 0) (n : Int))) s else (s, true)) = seqB (eachN g) (if fwTile (chain.getLast?.getD 0) (n : Int) ∈ left then evs m (chain ++ [(n : Int)]) (left.erase (fwTile (chain.getLast?.getD 0) (n : Int))) else []) s := by
      intro n s
      split
      · exact chB_evs g m _ _ s
      · rfl
    simp only [chB, evs, seqB]
    rw [seqB_flatMap _ (eachN g) _ hk]
    unfold eachN
    by_cases h1 : chain.length > 1
    · rw [if_pos h1, if_pos h1]
      cases hb : (g chain s).2 with
      | false => rw [if_pos ⟨h1, rfl⟩, if_neg (by decide)]
      | true => rw [if_neg (fun h => by cases h.2), if_pos rfl]
    · rw [if_neg (fun h => h1 h.1), if_neg h1, if_neg h1]
      simp only [if_true]
theorem seqB_foldl {ι σ : Type} {f : ι → σ → σ × Bool} (hf : ∀ n s, (f n s).2 = true) : ∀ (l : List ι) (s : σ), seqB f l s = (l.foldl (fun s n => (f n s).1) s, true)
  | [], s => rfl
  | n :: l, s => by
    simp only [seqB, List.foldl_cons]
    rw [if_pos (hf n s), seqB_foldl hf l]
theorem foldl_flat {ι κ σ : Type} (G : σ → κ → σ) (E : ι → List κ) : ∀ (l : List ι) (s : σ), (l.flatMap E).foldl G s = l.foldl (fun s n => (E n).foldl G s) s
  | [], s => rfl
  | n :: l, s => by rw [List.flatMap_cons, List.foldl_append, List.foldl_cons, foldl_flat G E l]
/-! ### the tiles that are left, by their marks -/
def leftU : List S45 → List Bool → List S45
  | t :: h, b :: u => if b = true then leftU h u else t :: leftU h u
  | _, _ => []
theorem leftU_sub : ∀ (h : List S45) (u : List Bool) (t : S45), t ∈ leftU h u → t ∈ h
  | [], _, t, ht => by simp [leftU] at ht
  | x :: h, [], t, ht => by simp [leftU] at ht
  | x :: h, b :: u, t, ht => by
    simp only [leftU] at ht
    by_cases c : b = true
    · rw [if_pos c] at ht; exact List.mem_cons_of_mem _ (leftU_sub h u t ht)
    · rw [if_neg c, List.mem_cons] at ht
      rcases ht with rfl | ht
      · exact List.mem_cons_self
      · exact List.mem_cons_of_mem _ (leftU_sub h u t ht)
theorem leftU_init : ∀ h : List S45, leftU h (List.replicate h.length false) = h
  | [] => rfl
  | x :: h => by simp only [List.length_cons, List.replicate_succ, leftU]; rw [if_neg (by decide), leftU_init h]
theorem mem_leftU : ∀ (h : List S45) (u : List Bool), h.Nodup → u.length = h.length → ∀ t, t ∈ leftU h u ↔ t ∈ h ∧ u.getD (h.idxOf t) false = false
  | [], u, _, _, t => by simp [leftU]
  | x :: h, [], _, hl, t => by simp at hl
  | x :: h, b :: u, hn, hl, t => by
    obtain ⟨hx, hn⟩ := List.nodup_cons.1 hn
    have ih := mem_leftU h u hn (by simpa using hl) t
    simp only [leftU]
    by_cases e : x = t
    · subst e
      have hnm : x ∉ leftU h u := fun hm => hx (leftU_sub h u x hm)
      rw [List.idxOf_cons_self]
      cases b with
      | false => simp
      | true => simp [hnm]
    · rw [List.idxOf_cons, show (x == t) = false from by simpa using e, cond_false, List.getD_cons_succ]
      cases b with
      | false => simp only [Bool.false_eq_true, if_false, List.mem_cons, ih]; exact ⟨fun h => h.elim (fun h => absurd h.symm e) (fun h => ⟨.inr h.1, h.2⟩), fun ⟨h, h2⟩ => .inr ⟨h.resolve_left (fun h => e h.symm), h2⟩⟩
      | true => simp only [if_true, List.mem_cons, ih]; exact ⟨fun h => ⟨.inr h.1, h.2⟩, fun ⟨h, h2⟩ => ⟨h.resolve_left (fun h => e h.symm), h2⟩⟩
theorem leftU_set : ∀ (h : List S45) (u : List Bool), h.Nodup → u.length = h.length → ∀ t, t ∈ h → u.getD (h.idxOf t) false = false → leftU h (u.set (h.idxOf t) true) = (leftU h u).erase t
  | [], u, _, _, t, hm, _ => by simp at hm
  | x :: h, [], _, hl, t, _, _ => by simp at hl
  | x :: h, b :: u, hn, hl, t, hm, hu => by
    obtain ⟨hx, hn⟩ := List.nodup_cons.1 hn
    by_cases e : x = t
    · subst e
      rw [List.idxOf_cons_self] at hu ⊢
      simp only [List.getD_cons_zero] at hu
      subst hu
      simp [leftU]
    · have hmh : t ∈ h := (List.mem_cons.1 hm).resolve_left (fun h => e h.symm)
      rw [List.idxOf_cons, show (x == t) = false from by simpa using e, cond_false] at hu ⊢
      rw [List.getD_cons_succ] at hu
      have ih := leftU_set h u hn (by simpa using hl) t hmh hu
      rw [List.set_cons_succ]
      simp only [leftU]
      cases b with
      | false => simp only [Bool.false_eq_true, if_false]; rw [List.erase_cons_tail (by simpa using e), ih]
      | true => simp only [if_true]; exact ih
/-- What the reference does with a chain. -/
def visitL (hl : Nat) (most : Int) (s : LkS) (ch : List Int) : LkS := if ch.length = hl + 1 then lkC most ch (lkB ch (lkA ch s)) else lkB ch (lkA ch s)
theorem lookV_evs (hand : List S45) (most : Int) (hn : hand.Nodup) : ∀ (m : Nat) (chain : List Int) (used : List Bool) (s : LkS), used.length = hand.length → chain.length + (leftU hand used).length = hand.length + 1 → (leftU hand used).length < m →
    lookV hand most m chain used s = (evs m chain (leftU hand used)).foldl (visitL hand.length most) s
  | 0, _, _, s, _, _, h => absurd h (Nat.not_lt_zero _)
  | m + 1, chain, used, s, hul, hsum, hm => by
    simp only [lookV, evs, List.foldl_cons]
    by_cases hf : chain.length = hand.length + 1
    · have h0 : leftU hand used = [] := List.length_eq_zero_iff.1 (by omega)
      rw [if_pos hf, h0, foldl_flat]
      have : ∀ (l : List Nat) (s : LkS), l.foldl (fun s (n : Nat) => (if fwTile (chain.getLast?.getD 0) (n : Int) ∈ ([] : List S45) then evs m (chain ++ [(n : Int)]) (([] : List S45).erase (fwTile (chain.getLast?.getD 0) (n : Int))) else []).foldl (visitL hand.length most) s) s = s := by
        intro l
        induction l with
        | nil => intro s; rfl
        | cons n l ih => intro s; rw [List.foldl_cons, if_neg (by simp), List.foldl_nil]; exact ih s
      rw [this]
      unfold visitL
      rw [if_pos hf]
    · rw [if_neg hf, foldl_flat]
      have hv : visitL hand.length most s chain = lkB chain (lkA chain s) := by unfold visitL; rw [if_neg hf]
      rw [hv]
      congr 1
      funext s n
      have hiff := mem_leftU hand used hn hul (fwTile (chain.getLast?.getD 0) (n : Int))
      by_cases c : fwTile (chain.getLast?.getD 0) (n : Int) ∈ leftU hand used
      · have c2 := hiff.1 c
        rw [if_pos c2, if_pos c]
        have hs := leftU_set hand used hn hul _ c2.1 c2.2
        have hle := List.length_erase_of_mem c
        have hpos := List.length_pos_of_mem c
        rw [lookV_evs hand most hn m _ _ s (by rw [List.length_set]; exact hul) (by rw [hs, List.length_append, List.length_singleton]; omega) (by rw [hs]; omega), hs]
      · rw [if_neg (fun h => c (hiff.2 h)), if_neg c, List.foldl_nil]

end Go.Proofs.Ytdklmjpimgeejaa.Q
