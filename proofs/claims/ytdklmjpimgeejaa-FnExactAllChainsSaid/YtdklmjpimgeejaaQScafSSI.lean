/- Plain lists and numbers: what the program's functions and the reference's compute. -/
import Derived.Test.YtdklmjpimgeejaaP0
import Derived.Test.YtdklmjpimgeejaaPlawseqIntS
import Derived.Test.YtdklmjpimgeejaaPlawseqIntSS
import Derived.Test.YtdklmjpimgeejaaPlawsheldIntS
import Derived.Test.YtdklmjpimgeejaaPlawsheldIntSS
import Derived.Test.YtdklmjpimgeejaaPlawsmarkIntS
import Derived.Test.YtdklmjpimgeejaaPlawsmarkIntSS
import Derived.Test.YtdklmjpimgeejaaQBaseC
import Derived.Test.YtdklmjpimgeejaaQScafI
namespace Go.Proofs.Ytdklmjpimgeejaa.Q
open Go.RowKit Go.Proofs.Ytdklmjpimgeejaa.P Go.Proofs.YtdklmjpimgeejaaW.PrintWords Go.Proofs.YtdklmjpimgeejaaW.PrintLast Go.Proofs.YtdklmjpimgeejaaW.PrintMore
set_option linter.unusedVariables false
set_option linter.unusedSimpArgs false

/-! rows of rows -/
def totSS {α : Type} : List (List α) → Nat
  | [] => 0
  | r :: rs => r.length + totSS rs
def marksSI (m : Int) : List (List Int) → List (List Int)
  | [] => []
  | r :: rs => marksI m r.length :: marksSI (m + r.length) rs
def marksST (m : Int) : List (List S45) → List (List S45)
  | [] => []
  | r :: rs => marksT m r.length :: marksST (m + 2 * r.length) rs
theorem marksSI_length : ∀ (rs : List (List Int)) (m : Int), (marksSI m rs).length = rs.length
  | [], _ => rfl
  | r :: rs, m => by rw [marksSI, List.length_cons, marksSI_length rs, List.length_cons]
theorem marksST_length : ∀ (rs : List (List S45)) (m : Int), (marksST m rs).length = rs.length
  | [], _ => rfl
  | r :: rs, m => by rw [marksST, List.length_cons, marksST_length rs, List.length_cons]
theorem totSS_le {α : Type} (b : Nat) : ∀ rs : List (List α), (∀ r ∈ rs, r.length ≤ b) → totSS rs ≤ rs.length * b
  | [], _ => Nat.zero_le _
  | r :: rs, h => by
    have h1 := h r List.mem_cons_self
    have h2 := totSS_le b rs fun x hx => h x (List.mem_cons_of_mem _ hx)
    rw [totSS, List.length_cons, Nat.succ_mul]; omega
theorem getD_mid {α : Type} (pre : List (List α)) (x : List α) (suf : List (List α)) : (pre ++ x :: suf).getD pre.length [] = x := by
  rw [List.getD_eq_getElem?_getD, List.getElem?_append_right (Nat.le_refl _), Nat.sub_self]; rfl
theorem rdSS_I (pre : List (List Int)) (x : List Int) (suf : List (List Int)) : rd_L4 (pre ++ x :: suf) (pre.length : Int) = x := by
  show (pre ++ x :: suf).getD (pre.length : Int).toNat _ = x
  rw [Int.toNat_natCast, getD_mid]
theorem eqIntSS_loop : ∀ (suf pre : List (List Int)), (∀ r ∈ suf, r.length ≤ 1000000) → (pre ++ suf).length ≤ 1000000000 → Ev (fun k => laws_eqIntSS.l0 k (pre ++ suf) (pre ++ suf) (pre.length : Int)) true
  | [], pre, _, hl => by
    refine ⟨1, fun k hk => ?_⟩
    obtain ⟨k, rfl⟩ : ∃ m, k = m + 1 := ⟨k - 1, by omega⟩
    simp only [laws_eqIntSS.l0]
    rw [if_neg (by simp)]
  | x :: suf, pre, h, hl => by
    have := eqIntSS_loop suf (pre ++ [x]) (fun r hr => h r (List.mem_cons_of_mem _ hr)) (by simpa using hl)
    rw [List.append_assoc, List.singleton_append] at this
    have hlt : pre.length < (pre ++ x :: suf).length := by simp
    have he := eqIntS_ev x x (by have := h x List.mem_cons_self; omega)
    rw [decide_eq_true rfl] at he
    refine Ev.step (f := fun k => (laws_eqIntS.f k x x).bind fun t => if t = true then laws_eqIntSS.l0 k (pre ++ x :: suf) (pre ++ x :: suf) ((pre ++ [x]).length : Int) else some false) (fun k => ?_) (Ev.bind he (Ev.congr (fun k => by rw [if_pos rfl]) this))
    simp only [laws_eqIntSS.l0]
    rw [if_pos (by omega), if_pos (by omega), if_pos (by omega), rdSS_I, wrap_succ (by omega)]
    simp
theorem eqIntSS_ev (a : List (List Int)) (h : ∀ r ∈ a, r.length ≤ 1000000) (hl : a.length ≤ 1000000) : Ev (fun k => laws_eqIntSS.f k a a) true := by
  have := eqIntSS_loop a [] h (by simpa using (by omega : a.length ≤ 1000000000))
  refine Ev.congr (fun k => ?_) this
  unfold laws_eqIntSS.f
  rw [if_pos rfl]; rfl
theorem markIntSS_loop : ∀ (suf pre : List (List Int)) (m : Int), (∀ r ∈ suf, r.length ≤ 10000) → 0 ≤ m → m + (totSS suf : Int) ≤ 10000000 → (pre ++ suf).length ≤ 1000000 → Ev (fun k => laws_markIntSS.l0 k (pre ++ suf) m (pre.length : Int)) (m + (totSS suf : Int), pre ++ marksSI m suf)
  | [], pre, m, _, _, _, hl => by
    refine ⟨1, fun k hk => ?_⟩
    obtain ⟨k, rfl⟩ : ∃ m, k = m + 1 := ⟨k - 1, by omega⟩
    simp only [laws_markIntSS.l0]
    rw [if_neg (by simp)]
    simp [totSS, marksSI]
  | x :: suf, pre, m, h, h0, hb, hl => by
    have hx := h x List.mem_cons_self
    rw [totSS] at hb ⊢
    have next := markIntSS_loop suf (pre ++ [marksI m x.length]) (m + (x.length : Int)) (fun r hr => h r (List.mem_cons_of_mem _ hr)) (by omega) (by omega) (by simpa using hl)
    rw [List.append_assoc, List.singleton_append, List.append_assoc, List.singleton_append] at next
    have hlt : pre.length < (pre ++ x :: suf).length := by simp
    have e1 : m + (x.length : Int) + (totSS suf : Int) = m + ((x.length + totSS suf : Nat) : Int) := by omega
    rw [e1] at next
    have hm := markIntS_loop x.length [] x m rfl h0 (by omega) (by simp; omega)
    simp only [List.nil_append, List.length_nil] at hm
    have hm2 : Ev (fun k => laws_markIntS.f k x m) (m + (x.length : Int), marksI m x.length) := hm
    have hs : (pre ++ x :: suf).set pre.length (marksI m x.length) = pre ++ marksI m x.length :: suf := by
      rw [List.set_append_right _ _ (Nat.le_refl _), Nat.sub_self, List.set_cons_zero]
    have next2 : Ev (fun k => laws_markIntSS.l0 k ((pre ++ x :: suf).set pre.length (marksI m x.length)) (m + (x.length : Int)) ((pre.length + 1 : Nat) : Int)) (m + ((x.length + totSS suf : Nat) : Int), pre ++ marksSI m (x :: suf)) := by
      rw [hs, marksSI]
      refine Ev.congr (fun k => ?_) next
      simp
    refine Ev.step (f := fun k => (laws_markIntS.f k x m).bind fun t => laws_markIntSS.l0 k ((pre ++ x :: suf).set pre.length t.2) t.1 ((pre.length + 1 : Nat) : Int)) (fun k => ?_) (Ev.bind (f := fun k t => laws_markIntSS.l0 k ((pre ++ x :: suf).set pre.length t.2) t.1 ((pre.length + 1 : Nat) : Int)) hm2 next2)
    simp only [laws_markIntSS.l0]
    rw [if_pos (by omega), if_pos (by omega), Int.toNat_natCast, getD_mid, wrap_succ (by omega)]
theorem markIntSS_ev (a : List (List Int)) (h : ∀ r ∈ a, r.length ≤ 1000) (hl : a.length ≤ 1000) : Ev (fun k => laws_markIntSS.f k a 1) (1 + (totSS a : Int), marksSI 1 a) := by
  have h2 := totSS_le 1000 a h
  have h3 : a.length * 1000 ≤ 1000 * 1000 := Nat.mul_le_mul_right _ hl
  exact markIntSS_loop a [] 1 (fun r hr => by have := h r hr; omega) (by omega) (by omega) (by simp; omega)
theorem heldIntSS_loop : ∀ (suf pre : List (List Int)) (m : Int), (∀ r ∈ suf, r.length ≤ 10000) → 0 ≤ m → m + (totSS suf : Int) ≤ 10000000 → (pre ++ suf).length ≤ 1000000 → Ev (fun k => laws_heldIntSS.l0 k (pre ++ marksSI m suf) m (pre.length : Int)) (m + (totSS suf : Int))
  | [], pre, m, _, _, _, hl => by
    refine ⟨1, fun k hk => ?_⟩
    obtain ⟨k, rfl⟩ : ∃ m, k = m + 1 := ⟨k - 1, by omega⟩
    simp only [laws_heldIntSS.l0]
    rw [if_neg (by simp [marksSI])]
    simp [totSS]
  | x :: suf, pre, m, h, h0, hb, hl => by
    have hx := h x List.mem_cons_self
    rw [totSS] at hb ⊢
    have next := heldIntSS_loop suf (pre ++ [marksI m x.length]) (m + (x.length : Int)) (fun r hr => h r (List.mem_cons_of_mem _ hr)) (by omega) (by omega) (by simpa using hl)
    rw [List.append_assoc, List.singleton_append] at next
    have hlt : pre.length < (pre ++ marksI m x.length :: marksSI (m + (x.length : Int)) suf).length := by simp
    have hll : (pre ++ x :: suf).length = pre.length + suf.length + 1 := by simp; omega
    have e1 : m + (x.length : Int) + (totSS suf : Int) = m + ((x.length + totSS suf : Nat) : Int) := by omega
    rw [e1] at next
    have hm := heldIntS_loop x.length [] m h0 (by omega) (by simp; omega)
    simp only [List.nil_append, List.length_nil] at hm
    have hm2 : Ev (fun k => laws_heldIntS.f k (marksI m x.length) m) (m + (x.length : Int)) := hm
    have hxn : ¬ (m + (x.length : Int)) < 0 := by omega
    rw [marksSI]
    have next2 : Ev (fun k => if (m + (x.length : Int)) < 0 then some (-1) else laws_heldIntSS.l0 k (pre ++ marksI m x.length :: marksSI (m + (x.length : Int)) suf) (m + (x.length : Int)) ((pre.length + 1 : Nat) : Int)) (m + ((x.length + totSS suf : Nat) : Int)) := by
      refine Ev.congr (fun k => ?_) next
      rw [if_neg hxn]
      simp
    refine Ev.step (f := fun k => (laws_heldIntS.f k (marksI m x.length) m).bind fun t => if t < 0 then some (-1) else laws_heldIntSS.l0 k (pre ++ marksI m x.length :: marksSI (m + (x.length : Int)) suf) t ((pre.length + 1 : Nat) : Int)) (fun k => ?_) (Ev.bind (f := fun k t => if t < 0 then some (-1) else laws_heldIntSS.l0 k (pre ++ marksI m x.length :: marksSI (m + (x.length : Int)) suf) t ((pre.length + 1 : Nat) : Int)) hm2 next2)
    simp only [laws_heldIntSS.l0]
    rw [if_pos (by omega), if_pos (by omega), rdSS_I, wrap_succ (by omega)]
theorem heldIntSS_ev (a : List (List Int)) (h : ∀ r ∈ a, r.length ≤ 1000) (hl : a.length ≤ 1000) : Ev (fun k => laws_heldIntSS.f k (marksSI 1 a) 1) (1 + (totSS a : Int)) := by
  have h2 := totSS_le 1000 a h
  have h3 : a.length * 1000 ≤ 1000 * 1000 := Nat.mul_le_mul_right _ hl
  exact heldIntSS_loop a [] 1 (fun r hr => by have := h r hr; omega) (by omega) (by omega) (by simp; omega)

end Go.Proofs.Ytdklmjpimgeejaa.Q
