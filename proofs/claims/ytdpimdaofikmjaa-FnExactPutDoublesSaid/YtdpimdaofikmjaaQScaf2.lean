/- Plain lists and numbers: what the program's functions and the reference's compute. -/
import Derived.Test.YtdpimdaofikmjaaP0
import Derived.Test.YtdpimdaofikmjaaPLa
import Derived.Test.YtdpimdaofikmjaaPLb
import Derived.Test.YtdpimdaofikmjaaQScaf
namespace Go.Proofs.Ytdpimdaofikmjaa.Q
open Go.RowKit Go.Proofs.Ytdpimdaofikmjaa.P Go.Proofs.YtdpimdaofikmjaaW.PrintWords Go.Proofs.YtdpimdaofikmjaaW.PrintLast Go.Proofs.YtdpimdaofikmjaaW.PrintMore
set_option linter.unusedVariables false
set_option linter.unusedSimpArgs false

theorem markIntS_evm (l : List Int) (m : Int) (hm : 0 ≤ m) (hb : m ≤ 10000000) (h : l.length ≤ 1048576) : Ev (fun k => laws_markIntS.f k l m) (m + (l.length : Int), marksI m l.length) := by
  have := markIntS_loop l.length [] l m rfl hm (by omega) (by simp; omega)
  exact this
theorem markTileS_evm (l : List S67) (m : Int) (hm : 0 ≤ m) (hb : m ≤ 10000000) (h : l.length ≤ 1048576) : Ev (fun k => laws_markTileS.f k l m) (m + 2 * (l.length : Int), marksT m l.length) :=
  markTileS_loop l.length [] l m rfl hm (by omega) (by simp; omega)
theorem szTileS_bigm (l : List S69) (m : Int) (h0 : 0 ≤ m) (h1 : m ≤ 1048576) (h : ¬ (l.length : Int) ≤ m) (hm : l.length ≤ maxLen) : laws_szTileS.f l m = some (-1) := by
  unfold laws_szTileS.f
  have : m - l.length < 0 := by omega
  have hm' : l.length ≤ 9223372036854775807 := by simpa [maxLen] using hm
  rw [wrap_eq (by omega) (by omega), if_pos this]
theorem szTileS_okm (l : List S69) (m : Int) (h1 : m ≤ 1048576) (h : (l.length : Int) ≤ m) : laws_szTileS.f l m = some (m - (l.length : Int)) := by
  unfold laws_szTileS.f
  rw [wrap_eq (by omega) (by omega), if_neg (by omega)]
theorem bind_true {α : Type} {g : Nat → Option Bool} {A B : Nat → Option α} {r : α} (hg : Ev g true) (h : Ev A r) : Ev (fun k => (g k).bind fun t => if t = true then A k else B k) r :=
  Ev.bind (f := fun k t => if t = true then A k else B k) hg (Ev.congr (fun k => by rw [if_pos rfl]) h)
theorem bind_false {α : Type} {g : Nat → Option Bool} {A B : Nat → Option α} {r : α} (hg : Ev g false) (h : Ev B r) : Ev (fun k => (g k).bind fun t => if t = true then A k else B k) r :=
  Ev.bind (f := fun k t => if t = true then A k else B k) hg (Ev.congr (fun k => by rw [if_neg (by decide)]) h)

end Go.Proofs.Ytdpimdaofikmjaa.Q
