/- Plain lists and numbers: what the program's functions and the reference's compute. -/
import Derived.Test.YtepccigcdbimaaaP0
import Derived.Test.YtepccigcdbimaaaPLa
import Derived.Test.YtepccigcdbimaaaPLc
import Derived.Test.YtepccigcdbimaaaQScafC
namespace Go.Proofs.Ytepccigcdbimaaa.Q
open Go.RowKit Go.Proofs.Ytepccigcdbimaaa.P Go.Proofs.YtepccigcdbimaaaW.PrintWords Go.Proofs.YtepccigcdbimaaaW.PrintLast Go.Proofs.YtepccigcdbimaaaW.PrintMore
set_option linter.unusedVariables false
set_option linter.unusedSimpArgs false

def convP (x : S57) : S61 := ⟨⟨x.f0.f0, x.f0.f1⟩, x.f1⟩
theorem rdLP_nat (xs : List S57) (i : Nat) (x : S57) (h : xs[i]? = some x) : rd_T57 xs (i : Int) = x := by
  show xs.getD (i : Int).toNat _ = x
  rw [Int.toNat_natCast, List.getD_eq_getElem?_getD, h]; rfl
theorem toPlayS_loop (l : List S57) (hl : l.length ≤ 1048576) : ∀ d i (out : List S61), i + d = l.length → out = (l.map convP).take i ++ List.replicate d z61 → Ev (fun k => laws_toPlayS.l0 k l out (i : Int)) (l.map convP) := by
  intro d
  induction d with
  | zero =>
    intro i out h ho
    refine ⟨1, fun k hk => ?_⟩
    obtain ⟨k, rfl⟩ : ∃ m, k = m + 1 := ⟨k - 1, by omega⟩
    simp only [laws_toPlayS.l0]
    rw [if_neg (by omega), ho, List.take_of_length_le (by rw [List.length_map]; omega)]
    simp
  | succ d ih =>
    intro i out h ho
    have hi : i < l.length := by omega
    obtain ⟨x, hx⟩ : ∃ x, l[i]? = some x := ⟨_, List.getElem?_eq_getElem hi⟩
    have hlen : out.length = l.length := by rw [ho]; simp; omega
    have hout : out.set i (convP x) = (l.map convP).take (i + 1) ++ List.replicate d z61 := by
      have h1 : ((l.map convP).take i).length = i := by simp; omega
      rw [ho, List.set_append_right _ _ (by omega), h1, Nat.sub_self, List.replicate_succ, List.set_cons_zero, List.take_add_one]
      simp [hx]
    refine Ev.step (f := fun k => laws_toPlayS.l0 k l (out.set i (convP x)) ((i + 1 : Nat) : Int)) (fun k => ?_) (ih (i + 1) _ (by omega) hout)
    simp only [laws_toPlayS.l0, laws_toPlay.f, laws_toTile.f, Option.bind_some]
    rw [if_pos (by omega), if_pos (by omega), if_pos (by omega), rdLP_nat l i x hx, wrap_succ (by omega), Int.toNat_natCast]
    rfl
theorem toPlayS_ev (l : List S57) (hl : l.length ≤ 1048576) : Ev (fun k => laws_toPlayS.f k l) (l.map convP) := by
  refine Ev.congr (f := fun k => laws_toPlayS.l0 k l (List.replicate l.length z61) ((0 : Nat) : Int)) (fun k => ?_) (toPlayS_loop l hl l.length 0 _ (by omega) (by simp))
  unfold laws_toPlayS.f
  rw [if_pos (by omega), Int.toNat_natCast, if_pos (by omega)]
  rfl
theorem szPlayS_big (l : List S57) (h : ¬ l.length ≤ 1048576) (hm : l.length ≤ maxLen) : laws_szPlayS.f l 1048576 = some (-1) := by
  unfold laws_szPlayS.f
  have : (1048576 : Int) - l.length < 0 := by omega
  have hm' : l.length ≤ 9223372036854775807 := by simpa [maxLen] using hm
  rw [wrap_eq (by omega) (by omega), if_pos this]
theorem szPlayS_ok (l : List S57) (h : l.length ≤ 1048576) : laws_szPlayS.f l 1048576 = some (1048576 - (l.length : Int)) := by
  unfold laws_szPlayS.f
  rw [wrap_eq (by omega) (by omega), if_neg (by omega)]

end Go.Proofs.Ytepccigcdbimaaa.Q
