-- Printed by a program of this session (wip/myprint.py, which drives the kit's print): what one function of the program does, and the proof that its call does so.
import Derived.Lib.SliceRun
import Derived.WalkSpells
import Derived.Test.YtdklmjpimgeejaaP0
namespace Go.Proofs.Ytdklmjpimgeejaa.P
open Go.RowKit Go.Proofs.YtdklmjpimgeejaaW.PrintWords Go.Proofs.YtdklmjpimgeejaaW.PrintLast Go.Proofs.YtdklmjpimgeejaaW.PrintMore
attribute [local go_sem] max2_int min2_int max_two min_two max_three min_three max_four min_four   -- for this text's walks alone
set_option linter.unusedVariables false
set_option linter.unusedSimpArgs false

/-! ### impl_CountByTiles_1: function 29: written by hand -/
theorem reps_two {R : S45 → List Value → Prop} {l : List S45} {inner : List Value} (hR : ∀ x c, R x c → c = [.int .i64 x.f0, .int .i64 x.f1]) (hr : Reps R 2 l inner) (i : Nat) (hi : i < l.length) : inner[i * 2]? = some (.int .i64 l[i].f0) ∧ inner[i * 2 + 1]? = some (.int .i64 l[i].f1) := by
 have h := hR _ _ (hr.2 i l[i] (List.getElem?_eq_getElem hi))
 have h0 := congrArg (fun c => c[0]?) h
 have h1 := congrArg (fun c => c[1]?) h
 simp only [List.getElem?_take, List.getElem?_drop] at h0 h1
 exact ⟨by simpa using h0, by simpa using h1⟩
/-- A block whose first cells are the tiles of a list. -/
def rowIs (w : World) (g cap : Nat) (m : List S45) : Prop :=
 ∃ cur : Array Value, w.heap[g]? = some (.cells cur 45 (0, 0)) ∧ cur.size = cap * 2 ∧ m.length ≤ cap ∧ ∀ i x, m[i]? = some x → cur[i * 2]? = some (.int .i64 x.f0) ∧ cur[i * 2 + 1]? = some (.int .i64 x.f1)
theorem rowIs_below {w w' : World} {g cap : Nat} {m : List S45} (h : rowIs w g cap m) (hb : Below w.heap.size w w') : rowIs w' g cap m := by
 obtain ⟨cur, h1, h2⟩ := h
 exact ⟨cur, (hb.block g (Array.getElem?_eq_some_iff.1 h1).1).trans h1, h2⟩
theorem rowIs_lt {w : World} {g cap : Nat} {m : List S45} (h : rowIs w g cap m) : g < w.heap.size := by
 obtain ⟨cur, h1, h2⟩ := h
 exact (Array.getElem?_eq_some_iff.1 h1).1
theorem rowIs_at {w : World} {g cap : Nat} {m : List S45} (h : rowIs w g cap m) (i : Nat) (x : S45) (hx : m[i]? = some x) : w.cell? ⟨g, i * 2, none⟩ = some (.int .i64 x.f0) ∧ w.cell? ⟨g, i * 2 + 1, none⟩ = some (.int .i64 x.f1) ∧ w.frozen? ⟨g, i * 2, none⟩ = false ∧ w.frozen? ⟨g, i * 2 + 1, none⟩ = false := by
 obtain ⟨cur, h1, h2, h3, h4⟩ := h
 obtain ⟨a, b⟩ := h4 i x hx
 refine ⟨?_, ?_, by simp [World.frozen?, h1], by simp [World.frozen?, h1]⟩
 ·simp only [World.cell?, h1]; simpa using a
 ·simp only [World.cell?, h1]; simpa using b
theorem rowIs_set {w : World} {g cap : Nat} {m : List S45} (h : rowIs w g cap m) (i : Nat) (x : S45) (hi : i < m.length) : rowIs ((w.setCell ⟨g, i * 2, none⟩ (.int .i64 x.f0)).setCell ⟨g, i * 2 + 1, none⟩ (.int .i64 x.f1)) g cap (m.set i x) := by
 obtain ⟨cur, h1, h2, h3, h4⟩ := h
 refine ⟨_, heap_setCell_at (heap_setCell_at h1), by simp [h2], by simpa using h3, fun j y hy => ?_⟩
 have hs : i * 2 + 1 < cur.size := by omega
 by_cases e : j = i
 ·subst e
  rw [List.getElem?_set_self hi] at hy
  cases hy
  constructor
  ·rw [Array.getElem?_setIfInBounds_ne (by omega), Array.getElem?_setIfInBounds_self_of_lt (by omega)]
  ·rw [Array.getElem?_setIfInBounds_self_of_lt (by simp; omega)]
 ·rw [List.getElem?_set_ne (by omega)] at hy
  obtain ⟨a, b⟩ := h4 j y hy
  constructor
  ·rw [Array.getElem?_setIfInBounds_ne (by omega), Array.getElem?_setIfInBounds_ne (by omega)]; exact a
  ·rw [Array.getElem?_setIfInBounds_ne (by omega), Array.getElem?_setIfInBounds_ne (by omega)]; exact b
/-- Behind a clearing of the cells from place k on the first k tiles are as they were. -/
theorem rowIs_clear {w : World} {g cap : Nat} {m : List S45} (h : rowIs w g cap m) (k : Nat) (hk : k ≤ m.length) (o : Nat) (ho : k * 2 ≤ o) (vs : List Value) : rowIs (w.setCells g o vs) g cap (m.take k) := by
 obtain ⟨cur, h1, h2, h3, h4⟩ := h
 obtain ⟨c, k1, k2, k3⟩ := heap_setCells_at vs w o cur h1
 refine ⟨c, k1, by omega, by simp; omega, fun i x hx => ?_⟩
 have hik : i < k := by
  have := (List.getElem?_eq_some_iff.1 hx).1
  simp at this; omega
 rw [List.getElem?_take_of_lt hik] at hx
 rw [k3 _ (by omega), k3 _ (by omega)]
 exact h4 i x hx
theorem R_of_rowIs {w : World} {base g cap : Nat} {ok : Nat → Prop} {m : List S45} (h : rowIs w g cap m) (hg : base ≤ g) (hok : ok g) (hc : cap ≤ maxLen) : Kd.R k45 45 w base ok (.slice (some ⟨g, 0, none⟩) m.length cap) m := by
 obtain ⟨cur, h1, h2, h3, h4⟩ := h
 have hl : (cur.toList.take (m.length * 2)).length = m.length * 2 := by simp; omega
 refine ⟨fun k hk => ?_, cur.toList.take (m.length * 2), ⟨hl, .inr ⟨g, cap, cur, rfl, hg, h1, h3, hc, h2, rfl⟩⟩, hl, fun j p hj => ?_⟩
 ·have : g = k := by simpa [Value.ownBlock] using hk
  subst this; exact hok
 ·obtain ⟨a, b⟩ := h4 j p hj
  have hjl := (List.getElem?_eq_some_iff.1 hj).1
  have : ((cur.toList.take (m.length * 2)).drop (j * 2)).take 2 = [.int .i64 p.f0, .int .i64 p.f1] := by
   apply List.ext_getElem?
   intro i
   match i with
   | 0 => rw [List.getElem?_take_of_lt (by omega), List.getElem?_drop, List.getElem?_take_of_lt (by omega), Array.getElem?_toList]; exact a
   | 1 => rw [List.getElem?_take_of_lt (by omega), List.getElem?_drop, List.getElem?_take_of_lt (by omega), Array.getElem?_toList]; exact b
   | i + 2 => rw [List.getElem?_take_eq_none (by omega)]; simp
  show k45.M _ _ _ _ (((cur.toList.take (m.length * 2)).drop (j * 2)).take 2)
  rw [this]
  exact k45_mkM _ _ _ p
theorem rowIs_of_R {w : World} {base : Nat} {ok : Nat → Prop} {v : Value} {l : List S45} (h : Kd.R k45 45 w base ok v l) : (v = .slice none 0 0 ∧ l = []) ∨ ∃ g cap, v = .slice (some ⟨g, 0, none⟩) l.length cap ∧ base ≤ g ∧ ok g ∧ l.length ≤ cap ∧ cap ≤ maxLen ∧ rowIs w g cap l := by
 obtain ⟨hok, inner, ⟨hl, hd⟩, hr⟩ := h
 rcases hd with ⟨rfl, hn⟩ | ⟨g, cap, cur, rfl, hg, hb, h1, h2, h3, h4⟩
 ·exact .inl ⟨rfl, List.length_eq_zero_iff.1 hn⟩
 ·refine .inr ⟨g, cap, rfl, hg, hok g (by simp [Value.ownBlock]), h1, h2, cur, hb, h3, h1, fun i x hx => ?_⟩
  obtain ⟨hi, rfl⟩ := List.getElem?_eq_some_iff.1 hx
  obtain ⟨a, b⟩ := reps_two (fun x c hc => k45_openM hc) hr i hi
  subst h4
  rw [List.getElem?_take_of_lt (by show _ < l.length * 2; omega), Array.getElem?_toList] at a b
  exact ⟨a, b⟩
def clearZ (n : Nat) : List Value := (Builtin.zeroCells #[.int .i64 0, .int .i64 0] n).toList
theorem clearZ_length (n : Nat) : (clearZ n).length = n * 2 := by simp [clearZ, Builtin.zeroCells]
theorem clearZ_one (n : Nat) : ∀ v ∈ clearZ n, v.oneCell' = true := by
 intro v hv
 simp only [clearZ, Builtin.zeroCells, Array.toList_map, List.mem_map] at hv
 obtain ⟨i, _, rfl⟩ := hv
 have h2 : i % 2 = 0 ∨ i % 2 = 1 := Nat.mod_two_eq_zero_or_one i
 have e : (#[Value.int .i64 0, Value.int .i64 0] : Array Value).size = 2 := rfl
 rw [e]
 rcases h2 with h | h <;> rw [h] <;> rfl
theorem clear_tiles {w : World} {g cap : Nat} {m : List S45} (h : rowIs w g cap m) (i : Nat) (hi : i < m.length) (c' : Nat) (ty : TypeId) : (Builtin.clear_ #[27] ty #[.slice (some ⟨g, i * 2, none⟩) (m.length - i) c']).run Try.prog w = .ok (.tuple #[]) (w.setCells g (i * 2) (clearZ (m.length - i))) := by
 obtain ⟨cur, h1, h2, h3, h4⟩ := h
 have hst := run_storeCells_cells (P := Try.prog) g (i * 2) (clearZ (m.length - i)) 0 w (fun j hj => by
  rw [clearZ_length] at hj
  simp only [World.cell?, h1, Nat.add_zero]
  simp only [Option.isSome_none, Bool.false_eq_true, if_false]
  rw [Array.getElem?_eq_getElem (by omega)]; rfl) (fun j hj => by simp [World.frozen?, h1]) (clearZ_one _)
 simp only [Nat.add_zero] at hst
 obtain ⟨n, hn⟩ : ∃ n, m.length - i = n + 1 := ⟨m.length - i - 1, by omega⟩
 rw [hn] at hst ⊢
 have hv := Try.zeroValue45
 simp [Builtin.clear_, run_underlying Try.underlying27, hv, clearZ, Value.cells] at hst ⊢
 simp [hst]
/-! ### what may change: the blocks that Y names -/
def ChgY (Y : Nat → Option Obj → Prop) (W W' : World) : Prop := W'.os = W.os ∧ W'.tape = W.tape ∧ W'.output = W.output ∧ W.heap.size ≤ W'.heap.size ∧ ∀ k, k < W.heap.size → ¬ Y k W.heap[k]? → W'.heap[k]? = W.heap[k]?
theorem ChgY.refl (Y : Nat → Option Obj → Prop) (W : World) : ChgY Y W W := ⟨rfl, rfl, rfl, Nat.le_refl _, fun _ _ _ => rfl⟩
theorem ChgY.trans {Y : Nat → Option Obj → Prop} {W W1 W2 : World} (h : ChgY Y W W1) (h2 : ChgY Y W1 W2) : ChgY Y W W2 :=
 ⟨h2.1.trans h.1, h2.2.1.trans h.2.1, h2.2.2.1.trans h.2.2.1, Nat.le_trans h.2.2.2.1 h2.2.2.2.1, fun k hk hY => by
  have e := h.2.2.2.2 k hk hY
  exact (h2.2.2.2.2 k (Nat.lt_of_lt_of_le hk h.2.2.2.1) (by rw [e]; exact hY)).trans e⟩
theorem ChgY.of_below {Y : Nat → Option Obj → Prop} {W W1 : World} (h : Below W.heap.size W W1) : ChgY Y W W1 := ⟨h.os, h.tape, h.output, h.size, fun k hk _ => h.block k hk⟩
theorem ChgY.of_grown {Y : Nat → Option Obj → Prop} {W W1 : World} {g : Nat} (h : W.grownBy W1 (some g)) (hY : ∀ o, Y g o) : ChgY Y W W1 := ⟨h.os, h.tape, h.output, h.size, fun k hk hn => h.block k hk (fun e => hn (by rw [Option.some.inj e]; exact hY _))⟩
theorem ChgY.cell {Y : Nat → Option Obj → Prop} {W W1 : World} {a : Addr} {v : Value} (h : ChgY Y W W1) (hc : W.cell? a = some v) (hY : ¬ Y a.block W.heap[a.block]?) : W1.cell? a = some v := by
 have e := h.2.2.2.2 a.block (World.block_lt_of_cell? _ _ hc) hY
 rw [← hc]
 simp only [World.cell?, e]
theorem lt_heapY {W : World} {g : Nat} {o : Obj} (h : W.heap[g]? = some o) : g < W.heap.size := (Array.getElem?_eq_some_iff.1 h).1
theorem cell_bY {W W' : World} {a : Addr} {v : Value} (h : W.cell? a = some v) (hb : Below W.heap.size W W') : W'.cell? a = some v := (hb.cell (World.block_lt_of_cell? _ _ h)).trans h
/-- A row's count at a place goes up by one. -/
def upAt (l : List Int) (j : Nat) : List Int := l.set j (wrap64 (l.getD j 0 + 1))
theorem upAt_length (l : List Int) (j : Nat) : (upAt l j).length = l.length := by simp [upAt]
set_option maxHeartbeats 4000000 in
set_option maxRecDepth 100000 in
theorem impl_CountByTiles_1.gcalls (chain : List Int) (A : Option Addr) (c : Nat) (cnt : List Int) (gC cap bO : Nat) (W : World) (h2 : 2 ≤ chain.length) (hl : chain.length ≤ cnt.length + 1) (hm : cnt.length ≤ 1000000)
  (hb : W.cell? ⟨bO, 0, none⟩ = some (.slice (some ⟨gC, 0, none⟩) cnt.length cap)) (hr : rowI W gC cap cnt) :
  Calls Try.prog 29 #[.slice A chain.length c, .pointer (some ⟨bO, 0, none⟩)] W fun e W' => e = .returned (.bool true) ∧ rowI W' gC cap (upAt cnt (chain.length - 2)) ∧ W.grownBy W' (some gC) := by
 obtain ⟨j, hj⟩ : ∃ j, chain.length = j + 2 := ⟨chain.length - 2, by omega⟩
 obtain ⟨x, hx⟩ : ∃ x, cnt[j]? = some x := ⟨_, List.getElem?_eq_getElem (by omega)⟩
 obtain ⟨hc, hf⟩ := rowI_at hr j x hx
 have hup : upAt cnt (chain.length - 2) = cnt.set j (wrap64 (x + 1)) := by
  unfold upAt
  rw [hj, Nat.add_sub_cancel, List.getD_eq_getElem?_getD, hx]; rfl
 have HR := aM (rowI_set hr j (wrap64 (x + 1)) (by omega))
 have hjlt : (j : Int) < (cnt.length : Int) := by omega
 have hjb : j ≤ 1000000 := by omega
 rw [hup, hj]
 clear hup hr hx hl h2
 go_enter Try.func29, Try.ntmps29
 go_wp2
 go_ret
 exact ⟨rfl, HR.out, ⟨rfl, rfl, rfl, by simp [World.setCell], fun k hk hne => Below.heap_setCell W ⟨gC, j, none⟩ _ k (fun e => hne (by rw [e]))⟩⟩

end Go.Proofs.Ytdklmjpimgeejaa.P
