-- Printed by a program of this session (wip/myprint.py, which drives the kit's print): what one function of the program does, and the proof that its call does so.
import Derived.Test.YtnooegfhffhfpaaP0
import Derived.Test.YtnooegfhffhfpaaPIa
import Derived.Test.YtnooegfhffhfpaaPIw
namespace Go.Proofs.Ytnooegfhffhfpaa.P
open Go.RowKit Go.Proofs.YtnooegfhffhfpaaW.PrintWords Go.Proofs.YtnooegfhffhfpaaW.PrintLast Go.Proofs.YtnooegfhffhfpaaW.PrintMore
attribute [local go_sem] max2_int min2_int max_two min_two max_three min_three max_four min_four   -- for this text's walks alone
set_option linter.unusedVariables false
set_option linter.unusedSimpArgs false

section
/-! ### impl_kept_1: function 63: written by hand -/
set_option maxHeartbeats 4000000 in
theorem impl_kept_1.gcalls (g : Nat) (lb : Array Value) (p : S39 → Bool) (x : S39) (b : Nat) (W : World) (eg : ∀ args w, (callFunc g args).run Try.prog w = .ok (.enter g args) w) (hc : W.cell? ⟨b, 0, none⟩ = some (.func (.func g) #[] lb)) (hp : PredTB g lb p W.heap.size W x) :
  Calls Try.prog 63 #[.agg #[.int .i64 x.f0, .int .i64 x.f1], .pointer (some ⟨b, 0, none⟩)] W fun e W' => e = .returned (.bool (!p x)) ∧ Below W.heap.size W W' := by
 have hlt := World.block_lt_of_cell? W _ hc
 have hcall : ∀ W', Below W.heap.size W W' → Calls Try.prog g (#[.agg #[.int .i64 x.f0, .int .i64 x.f1]] ++ lb) W' fun e W'' => e = .returned (.bool (p x)) ∧ Below W'.heap.size W' W'' := hp
 clear hp
 have hc2 : ∀ o, (W.alloc o).cell? ⟨b, 0, none⟩ = some (.func (.func g) #[] lb) := fun o => Lib.cell?_alloc_some o hc
 go_enter Try.func63, Try.ntmps63
 go_wp2_with (go_at_fn g; refine (hcall _ (by first | exact Below.refl _ _ | exact (Below.refl _ _).alloc (Nat.le_refl _) _)).mono ?_; rintro e w2 ⟨rfl, hb2⟩)
 go_ret
 exact ⟨by simp, by first | exact hb2 | exact below_then ((Below.refl _ _).alloc (Nat.le_refl _) _) (by simp) hb2⟩

end

section
/-! ### impl_kept: function 41: written by hand -/
set_option maxHeartbeats 8000000 in
set_option maxRecDepth 100000 in
theorem impl_kept.gcalls (g : Nat) (lb : Array Value) (p : S39 → Bool) (A0 : Option Addr) (c0 : Nat) (l0 : List S39) (w : World) (eg : ∀ args w, (callFunc g args).run Try.prog w = .ok (.enter g args) w) (hr0 : Kd.C k39 w A0 l0.length l0) (hc0 : l0.length ≤ c0)
  (hin : ∀ x ∈ l0, inT x) (hlen : l0.length < 8796093022208) (hp : ∀ x ∈ l0, PredTB g lb p w.heap.size w x) :
  Calls Try.prog 41 #[.slice A0 l0.length c0, .func (.func g) #[] lb] w fun e w' => ∃ v0_ : Value, e = .returned (v0_) ∧ Kd.R k39 39 w' w.heap.size (fun _ => True) v0_ ((l0.mergeSort leT).filter p) ∧ Below w.heap.size w w' := by
 have eg1 : ∀ args w, (callFunc 63 args).run Try.prog w = .ok (.enter 63 args) w := enters_of Try.func63 (by kernel_rfl) rfl
 have hso : ∀ o, Calls Try.prog 53 #[.slice A0 l0.length c0] (w.alloc o) fun e w' => ∃ v0_ : Value, e = .returned (v0_) ∧ Kd.R k39 39 w' (w.alloc o).heap.size (fun _ => True) v0_ (l0.mergeSort leT) ∧ Below (w.alloc o).heap.size (w.alloc o) w' := fun o =>
  impl_sorted.calls A0 c0 l0 (l0.mergeSort leT) (w.alloc o) (Kd.C_below hr0 ((Below.refl _ _).alloc (Nat.le_refl _) o)) hc0 (by unfold impl_sorted.f; rw [if_pos ⟨hlen, hin⟩])
 have hdel : ∀ (o : Obj) (W : World) (v : Value), (w.alloc o).cell? ⟨w.heap.size, 0, none⟩ = some (.func (.func g) #[] lb) → Kd.R k39 39 W (w.alloc o).heap.size (fun _ => True) v (l0.mergeSort leT) → Below (w.alloc o).heap.size (w.alloc o) W →
   Calls Try.prog 62 #[v, .func (.func 63) #[] #[.pointer (some ⟨w.heap.size, 0, none⟩)]] W fun e w' => ∃ v', e = .returned v' ∧ Kd.R k39 39 w' (w.alloc o).heap.size (fun _ => True) v' ((l0.mergeSort leT).filter p) ∧ Below (w.alloc o).heap.size W w' := by
  intro o W v hc ho hb
  have hlt : w.heap.size < (w.alloc o).heap.size := by simp
  have := slices_DeleteFunc_Tile.gcalls 63 #[.pointer (some ⟨w.heap.size, 0, none⟩)] (fun x => !p x) (w.alloc o).heap.size (fun _ => True) v (l0.mergeSort leT) W eg1 hb.size ho (fun x hx W' hb' => by
   have hb2 : Below w.heap.size w W' := (((Below.refl w.heap.size w).alloc (Nat.le_refl _) o).trans ((hb.trans hb').mono (Nat.le_of_lt hlt)))
   refine impl_kept_1.gcalls g lb p x w.heap.size W' eg (((hb.trans hb').cell (by simp)).trans hc) (fun W2 hb3 => hp x (List.mem_mergeSort.1 hx) W2 (hb2.trans (hb3.mono hb2.size))))
  simpa using this
 have HSO := aM hso
 have HDE := aM hdel
 have hmf : ∀ (fn : Fn) (first cap : Array Value) (w : World), (Instr.makeFunc fn first cap).run Try.prog w = .ok (.func fn first cap) w := fun _ _ _ _ => rfl
 clear hso hdel hp hin hr0 hc0 hlen eg eg1
 go_enter Try.func41, Try.ntmps41
 go_wp2_with (first | (go_at_call 53; refine (HSO.out _).mono ?_; rintro e w1 ⟨v1, rfl, ho1, hb1⟩; have HO1 := aM ho1; have HB1 := aM hb1; clear ho1 hb1) | (go_at_call 62; refine (HDE.out _ _ _ (by simp only [World.cell?, heap_alloc_new]; rfl) HO1.out HB1.out).mono ?_; rintro e w2 ⟨v2, rfl, ho2, hb2⟩))
 go_ret
 exact ⟨_, rfl, Kd.R_lower ho2 (by simp), ((Below.refl w.heap.size w).alloc (Nat.le_refl _) _).trans ((HB1.out.trans hb2).mono (by simp))⟩

end

section
/-! ### impl_plain_1: function 42: written by hand -/
set_option maxHeartbeats 4000000 in
theorem impl_plain_1.gcalls (x : S39) (W : World) :
  Calls Try.prog 42 #[.agg #[.int .i64 x.f0, .int .i64 x.f1]] W fun e W' => e = .returned (.bool (!(x.f0 == x.f1))) ∧ Below W.heap.size W W' := by
 have hcall : ∀ W', Calls Try.prog 43 #[.agg #[.int .i64 x.f0, .int .i64 x.f1]] W' fun e W'' => e = .returned (.bool (x.f0 == x.f1)) ∧ Below W'.heap.size W' W'' := fun W' => (impl_isDouble.calls x.f0 x.f1 _ W' rfl).mono fun e W'' ⟨he, hd⟩ => ⟨he, by first | exact hd | exact hd.below⟩
 have HC := aM hcall
 clear hcall
 go_enter Try.func42, Try.ntmps42
 go_wp2_with (go_at_call 43; refine (HC.out _).mono ?_; rintro e w2 ⟨rfl, hb2⟩)
 go_ret
 exact ⟨by simp, by first | exact hb2 | exact below_then ((Below.refl _ _).alloc (Nat.le_refl _) _) (by simp) hb2⟩

end

section
/-! ### impl_plain: function 23: written by hand -/
def impl_plain.f (l0 : List S39) : Option (List S39) := if l0.length < 8796093022208 ∧ (∀ x ∈ l0, inT x) then some ((l0.mergeSort leT).filter fun x => !(x.f0 == x.f1)) else none
set_option maxHeartbeats 4000000 in
theorem impl_plain.calls (A0 : Option Addr) (c0 : Nat) (l0 : List S39) (r : List S39) (w : World) (hr0 : Kd.C k39 w A0 l0.length l0) (hc0 : l0.length ≤ c0) (h : impl_plain.f l0 = some r) :
  Calls Try.prog 23 #[.slice A0 l0.length c0] w fun e w' => ∃ v0_ : Value, e = .returned (v0_) ∧ Kd.R k39 39 w' w.heap.size (fun _ => True) v0_ r ∧ Below w.heap.size w w' := by
 have eg : ∀ args w, (callFunc 42 args).run Try.prog w = .ok (.enter 42 args) w := enters_of Try.func42 (by kernel_rfl) rfl
 unfold impl_plain.f at h
 by_cases c : l0.length < 8796093022208 ∧ (∀ x ∈ l0, inT x)
 case neg => rw [if_neg c] at h; cases h
 rw [if_pos c] at h
 obtain rfl := Option.some.inj h
 have HK := aM (impl_kept.gcalls 42 #[] (fun x => !(x.f0 == x.f1)) A0 c0 l0 w eg hr0 hc0 c.2 c.1 (fun x _ W hb => impl_plain_1.gcalls x W))
 clear hr0 hc0 c h
 go_enter Try.func23, Try.ntmps23
 go_wp2_with (go_at_call 41; refine HK.out.mono ?_; rintro e w1 ⟨v1, rfl, ho1, hb1⟩)
 obtain ⟨A1, c1, rfl⟩ := Kd.R_slice ho1
 go_ret
 exact ⟨_, rfl, ho1, hb1⟩

end

section
/-! ### impl_doubles: function 36 -/
def impl_doubles.l0 : Nat → List Int → List (S39) → Int → Int → Option (List Int)
 | 0, _, _, _, _ => none
 | k + 1, x3, x8, x9, x10 => if x10 < x9 then (if 0 ≤ x10 then (if x10 < (x8.length : Int) then ((impl_isDouble.f ((rd_T39 x8 x10).f0) ((rd_T39 x8 x10).f1)).bind fun t260 => (if t260 = true then (if x3.length < 17592186044416 then (impl_doubles.l0 k (x3 ++ [(rd_T39 x8 x10).f0]) x8 x9 (wrap64 (x10 + 1))) else (none)) else (impl_doubles.l0 k x3 x8 x9 (wrap64 (x10 + 1))))) else (none)) else (none)) else (some x3)
def impl_doubles.f (k : Nat) (l0 : List (S39)) : Option (List Int) := (impl_sorted.f l0).bind fun t255 => (impl_doubles.l0 k (([] : List Int)) t255 (t255.length : Int) 0)
theorem impl_doubles.mono_l : ∀ k, (∀ y0 y1 y2 y3, LeO (impl_doubles.l0 k y0 y1 y2 y3) (impl_doubles.l0 (k + 1) y0 y1 y2 y3))
 | 0 => fun _ _ _ _ r h => by simp [impl_doubles.l0] at h
 | k + 1 => by
  have ih0 := impl_doubles.mono_l k
  ·intro y0 y1 y2 y3
   unfold impl_doubles.l0
   repeat' first
   | (with_reducible exact ih0 _ _ _ _)
   | (with_reducible exact LeO.refl _)
   | (with_reducible exact LeO.none _)
   | (with_reducible refine LeO.ite ?_ ?_)
   | (with_reducible refine LeO.bind ?_ (fun _ => ?_))
   | exact ih0 _ _ _ _
   | exact LeO.none _
   | refine LeO.ite ?_ ?_
   | refine LeO.bind ?_ (fun _ => ?_)
theorem impl_doubles.mono : ∀ a0 k, LeO (impl_doubles.f k a0) (impl_doubles.f (k + 1) a0) := by
 intro a0 k
 have ih0 := impl_doubles.mono_l k
 unfold impl_doubles.f
 repeat' first
   | (with_reducible exact ih0 _ _ _ _)
   | (with_reducible exact LeO.refl _)
   | (with_reducible exact LeO.none _)
   | (with_reducible refine LeO.ite ?_ ?_)
   | (with_reducible refine LeO.bind ?_ (fun _ => ?_))
   | exact ih0 _ _ _ _
   | exact LeO.none _
   | refine LeO.ite ?_ ?_
   | refine LeO.bind ?_ (fun _ => ?_)
set_option maxHeartbeats 8000000 in
set_option maxRecDepth 100000 in
theorem impl_doubles.calls (k : Nat) (A0 : Option Addr) (c0 : Nat) (l0 : List (S39)) (r : List Int) (w : World) (hr0 : Kd.C k39 w A0 l0.length l0) (hc0 : l0.length ≤ c0) (h : impl_doubles.f k l0 = some r) :
  Calls Try.prog 36 #[.slice A0 l0.length c0] w fun e w' => ∃ v0_ : Value, e = .returned (v0_) ∧ Kd.R (Kd.int .i64) 3 w' w.heap.size (fun _ => True) v0_ r ∧ Below w.heap.size w w' := by
 have hu39 := Try.underlying39
 have HR0 := aM hr0
 have HC0 := aM hc0
 clear hr0 hc0
 have HB := aM (Below.refl w.heap.size w)
 have H : ((impl_sorted.f l0).bind fun t255 => (impl_doubles.l0 k (([] : List Int)) t255 (t255.length : Int) 0)) = some r := h
 clear h
 obtain ⟨y252, hy252⟩ : ∃ y_ : List Int, y_ = (([] : List Int)) := ⟨_, rfl⟩
 replace H : ((impl_sorted.f l0).bind fun t255 => (impl_doubles.l0 k y252 t255 (t255.length : Int) 0)) = some r := by first | (rw [hy252]; with_reducible exact H) | (have H2_ := (Option.bind_some _ _).symm.trans H; rw [hy252]; with_reducible exact H2_) | (have H2_ := (Option.bind_some _ _).symm.trans H; with_reducible exact H2_) | with_reducible exact H | (rw [hy252]; exact H) | exact H
 have Ny252 := aM hy252
 clear hy252
 replace H := oB H
 obtain ⟨t255, A20, H⟩ := H
 replace H : (impl_doubles.l0 k y252 t255 (t255.length : Int) 0) = some r := H
 have A2 := aM A20
 clear A20
 have H' := aM H
 clear H
 go_enter Try.func36, Try.ntmps36
 go_wp2_with (first | ((with_reducible refine gate_dst (N := 6) rfl ?_); refine Kd.R_lit (Kd.int .i64) _ 3 ?hg (N := 6) ?hd (xs := ([] : List Int)) (inner := []) (ok := fun _ => True) (okp := fun _ => True) ?hr ?hp (fun _ hk => hk) trivial (Below.refl _ _) (Nat.le_refl _) (by simp) ?_; (case hd => rfl); (case hg => rfl); (case hr => first | (go_simp; done) | (go_simp; rfl)); (case hp => exact (Reps.none _ _)); intro v253 w3 ho4 hb hg_ hnew_; clear hg_ hnew_; (first | rw [← Ny252.out] at ho4 | (simp only [Int.reduceToNat] at ho4; rw [← Ny252.out] at ho4)); have n0_ := aM (Kd.R_lower ho4 (below_size (by repeat (first | (with_reducible first | exact HB.out | apply bA | apply bN | apply bD) | exact HB.out)))); have n1_ := aM (below_step (by repeat (first | (with_reducible first | exact HB.out | apply bA | apply bN | apply bD) | exact HB.out)) hb); clear HB; have HO254 := n0_; have HB := n1_; clear n0_ n1_; clear hb ho4) | ((with_reducible refine gate_callee (f := 53) rfl ?_); refine goesL_ (some 8) rfl rfl Try.func53 (by kernel_rfl) rfl #[.slice A0 l0.length c0] rfl (by (try simp only [List.map_toArray, List.map_cons, List.map_nil]); first | done | rfl | (simp only [List.length_drop, List.length_take]; rfl)) ?_; (with_reducible refine (impl_sorted.calls _ _ l0 t255 _ ?side1 ?side2 A2.out).mono ?_); (case side1 => repeat (first | exact (Kd.C_below HR0.out HB.out) | (with_reducible refine Kd.C_alloc ?_ _) | (with_reducible refine Kd.C_drewN ?_ _) | (with_reducible refine Kd.C_drew ?_))); (case side2 => exact HC0.out); rintro e w5 ⟨v256, rfl, ho0, hb⟩; refine ⟨_, rfl, ?_⟩; have n0_ := aM (Kd.R_below (by (with_reducible repeat (first | apply rA | apply rN | apply rD)); exact HO254.out) hb); have n1_ := aM (Kd.R_lower ho0 (below_size (by repeat (first | (with_reducible first | exact HB.out | apply bA | apply bN | apply bD) | exact HB.out)))); have n2_ := aM (below_step (by repeat (first | (with_reducible first | exact HB.out | apply bA | apply bN | apply bD) | exact HB.out)) hb); clear HO254; clear HB; have HO254 := n0_; have HO257 := n1_; have HB := n2_; clear n0_ n1_ n2_; (try clear hb); (try clear hb2); (try clear hk); (try clear hi); (try clear ho0); obtain ⟨Ao6, co6, eo6⟩ := Kd.R_slice HO257.out; subst eo6))
 go_loopg [3, 10] k (fun kq v3 v10 w' => ∃ (x3_1 : List Int) (x10_1 : Int), v10 = .int .i64 x10_1 ∧ Aside0 (impl_doubles.l0 kq x3_1 t255 (t255.length : Int) x10_1 = some r) ∧ Aside0 (kq ≤ k) ∧ Aside0 (Kd.R (Kd.int .i64) 3 w' w.heap.size (fun _ => True) v3 x3_1) ∧ Aside0 (Kd.R k39 39 w' w.heap.size (fun _ => True) (.slice Ao6 t255.length co6) t255) ∧ Aside0 (Below w.heap.size w w'))
 case atStart => exact ⟨(y252), (0), (by first | rfl | (simp; done) | (simp [*]; done)), H', ⟨Nat.le_refl _⟩, ⟨by (with_reducible repeat (first | apply rA | apply rN | apply rD)); exact HO254.out⟩, ⟨by (with_reducible repeat (first | apply rA | apply rN | apply rD)); exact HO257.out⟩, ⟨by repeat (first | (with_reducible first | exact HB.out | apply bA | apply bN | apply bD) | exact HB.out)⟩⟩
 case round =>
  clear H'
  try clear p2
  try clear c3
  try clear c5
  obtain ⟨x3_1, x10_1, rfl, HA, HK1, HO_3, HO_8, HB⟩ := hrel
  cases gk with
  | zero => exact absurd HA.out (by simp [impl_doubles.l0])
  | succ k1 =>
   have H := HA.out
   clear HA
   simp only [impl_doubles.l0] at H
   by_cases c7 : x10_1 < (t255.length : Int)
   ·rw [if_pos c7] at H
    have c7b0 : decide (x10_1 < (t255.length : Int)) = true := decide_eq_true c7
    clear c7
    by_cases c8 : 0 ≤ x10_1
    ·rw [if_pos c8] at H
     have c8b0 : decide (0 ≤ x10_1) = true := decide_eq_true c8
     clear c8
     by_cases c9 : x10_1 < (t255.length : Int)
     ·rw [if_pos c9] at H
      have c9b0 : decide (x10_1 < (t255.length : Int)) = true := decide_eq_true c9
      clear c9
      replace H := oB H
      obtain ⟨t260, A100, H⟩ := H
      replace H : (if t260 = true then (if x3_1.length < 17592186044416 then (impl_doubles.l0 k1 (x3_1 ++ [(rd_T39 t255 x10_1).f0]) t255 (t255.length : Int) (wrap64 (x10_1 + 1))) else (none)) else (impl_doubles.l0 k1 x3_1 t255 (t255.length : Int) (wrap64 (x10_1 + 1)))) = some r := H
      have A10 := aM A100
      clear A100
      by_cases c11 : t260 = true
      ·subst c11
       have H1 : (if x3_1.length < 17592186044416 then (impl_doubles.l0 k1 (x3_1 ++ [(rd_T39 t255 x10_1).f0]) t255 (t255.length : Int) (wrap64 (x10_1 + 1))) else (none)) = some r := by rw [if_pos rfl] at H; exact H
       clear H
       have H := H1
       clear H1
       by_cases c12 : x3_1.length < 17592186044416
       ·rw [if_pos c12] at H
        have LMc12 := aM c12
        clear c12
        obtain ⟨y261, hy261⟩ : ∃ y_ : List Int, y_ = (x3_1 ++ [(rd_T39 t255 x10_1).f0]) := ⟨_, rfl⟩
        replace H : (impl_doubles.l0 k1 y261 t255 (t255.length : Int) (wrap64 (x10_1 + 1))) = some r := by first | (rw [hy261]; with_reducible exact H) | (have H2_ := (Option.bind_some _ _).symm.trans H; rw [hy261]; with_reducible exact H2_) | (have H2_ := (Option.bind_some _ _).symm.trans H; with_reducible exact H2_) | with_reducible exact H | (rw [hy261]; exact H) | exact H
        have Ny261 := aM hy261
        clear hy261
        have H' := aM H
        clear H
        have p258 : 0 ≤ (x10_1 : Int) := oD (by first | (with_reducible assumption) | assumption)
        have q258 : x10_1 < (t255.length : Int) := oD (by first | (with_reducible assumption) | assumption)
        obtain ⟨ad258, e258, hx258_0, hx258_1⟩ := at_T39 (Kd.R_reads' HO_8.out).2.2 x10_1 p258 q258
        cases e258
        replace p258 := eq_true p258
        replace q258 := eq_true q258
        go_wp2_with (first | ((with_reducible refine gate_dst (N := 5) rfl ?_); refine box_event ?hg (N := 5) ?hd (cs := #[.int .i64 0, .int .i64 0]) (t := 39) ?hr ?_; (case hd => rfl); (case hg => rfl); (case hr => first | (go_simp; done) | (go_simp; rfl)); intro gb259 hg w13 hbox hb; have n0_ := aM (Kd.R_below (by (with_reducible repeat (first | apply rA | apply rN | apply rD)); exact HO_3.out) hb); have n1_ := aM (Kd.R_below (Kd.R_elderB (by (with_reducible repeat (first | apply rA | apply rN | apply rD)); exact HO_8.out) gb259 (Nat.le_of_eq hg.symm)) hb); have n2_ := aM (below_step (by repeat (first | (with_reducible first | exact HB.out | apply bA | apply bN | apply bD) | exact HB.out)) hb); have n3_ := aM (hbox); have n4_ := aM ((by rw [hg]; exact (below_size (by repeat (first | (with_reducible first | exact HB.out | apply bA | apply bN | apply bD) | exact HB.out))) : w.heap.size ≤ gb259)); have n5_ := aM ((by rw [hg]; exact (below_size (by repeat (first | (with_reducible first | exact HB.out | apply bA | apply bN | apply bD) | exact HB.out))) : w.heap.size ≤ gb259)); clear HO_3; clear HO_8; clear HB; have HO_3 := n0_; have HO_8 := n1_; have HB := n2_; have BK259 := n3_; have GW259 := n4_; have GE259 := n5_; clear n0_ n1_ n2_ n3_ n4_ n5_; clear hb hbox hg; have hcz14_0 : w13.cell? ⟨gb259, 0, none⟩ = some (.int .i64 0) := (blk_cell BK259.out 0).trans rfl; have hcz14_1 : w13.cell? ⟨gb259, 1, none⟩ = some (.int .i64 0) := (blk_cell BK259.out 1).trans rfl; have hfz14_0 := blk_frozen BK259.out 0; have hfz14_1 := blk_frozen BK259.out 1) | ((with_reducible refine gate_callee (f := 43) rfl ?_); refine goesL_ (some 15) rfl rfl Try.func43 (by kernel_rfl) rfl #[.agg #[.int .i64 ((rd_T39 t255 x10_1).f0), .int .i64 ((rd_T39 t255 x10_1).f1)]] rfl (by (try simp only [List.map_toArray, List.map_cons, List.map_nil]); first | done | rfl | (simp only [List.length_drop, List.length_take]; rfl)) ?_; (with_reducible refine (impl_isDouble.calls ((rd_T39 t255 x10_1).f0) ((rd_T39 t255 x10_1).f1) true _ A10.out).mono ?_); rintro e w15 ⟨rfl, hb⟩; refine ⟨_, rfl, ?_⟩; have n0_ := aM (Kd.R_below (by (with_reducible repeat (first | apply rA | apply rN | apply rD)); exact (Kd.R_mono (Kd.R_far (p := ⟨gb259, 1, none⟩) (Kd.R_far (p := ⟨gb259, 0, none⟩) (Kd.R_types HO_3.out BK259.out (by decide)) (fun _ hk => hk.2) (.int .i64 ((rd_T39 t255 x10_1).f0))) (fun _ hk => hk.2) (.int .i64 ((rd_T39 t255 x10_1).f1))) (fun _ h_ => h_.1))) hb); have n1_ := aM (Kd.R_below (by (with_reducible repeat (first | apply rA | apply rN | apply rD)); exact (Kd.R_mono (Kd.R_far (p := ⟨gb259, 1, none⟩) (Kd.R_far (p := ⟨gb259, 0, none⟩) (Kd.R_mono HO_8.out (fun k_ hk => (⟨hk, hk.2⟩ : _ ∧ k_ ≠ gb259))) (fun _ hk => hk.2) (.int .i64 ((rd_T39 t255 x10_1).f0))) (fun _ hk => hk.2) (.int .i64 ((rd_T39 t255 x10_1).f1))) (fun _ h_ => h_.1))) hb); have n2_ := aM (blk_below (g := gb259) (o := .cells #[.int .i64 ((rd_T39 t255 x10_1).f0), .int .i64 ((rd_T39 t255 x10_1).f1)] 39 (0, 0)) (by (with_reducible repeat (first | refine blk_drewN ?_ _ | refine blk_drew ?_ | refine blk_alloc ?_ _)); refine blk_put (cs := #[.int .i64 ((rd_T39 t255 x10_1).f0), .int .i64 0]) ?_ 1 _ rfl; (with_reducible repeat (first | refine blk_drewN ?_ _ | refine blk_drew ?_ | refine blk_alloc ?_ _)); refine blk_put (cs := #[.int .i64 0, .int .i64 0]) ?_ 0 _ rfl; (with_reducible repeat (first | refine blk_drewN ?_ _ | refine blk_drew ?_ | refine blk_alloc ?_ _)); exact BK259.out) hb); have n3_ := aM (below_step (by repeat (first | (with_reducible first | exact HB.out | apply bA | apply bN | apply bD | refine below_set ?_ GE259.out) | exact HB.out)) hb); clear HO_3; clear HO_8; clear BK259; clear HB; have HO_3 := n0_; have HO_8 := n1_; have BK259 := n2_; have HB := n3_; clear n0_ n1_ n2_ n3_; (try clear hb); (try clear hb2); (try clear hk); (try clear hi); have hcz16_0 : w15.cell? ⟨gb259, 0, none⟩ = some (.int .i64 ((rd_T39 t255 x10_1).f0)) := (blk_cell BK259.out 0).trans rfl; have hcz16_1 : w15.cell? ⟨gb259, 1, none⟩ = some (.int .i64 ((rd_T39 t255 x10_1).f1)) := (blk_cell BK259.out 1).trans rfl; have hfz16_0 := blk_frozen BK259.out 0; have hfz16_1 := blk_frozen BK259.out 1) | ((with_reducible refine gate_builtin (b := .append) (xs := #[.tmp 16, .tmp 19]) rfl ?_); at_builtin; refine Kd.R_append (Kd.int .i64) (w0 := w) w.heap.size rfl (.tmp 16) (.tmp 19) 36 3 (.int .i64 0) 8 rfl Try.underlying36 info3 rfl (by decide) (by omega) u3 x3_1 ((rd_T39 t255 x10_1).f0) [.int .i64 ((rd_T39 t255 x10_1).f0)] (fun _ => True) (fun _ => False) rfl rfl ?aP (fun _ hk => hk.elim) ?aF ?aO ?aB ?aS ?aL ?_; (case aP => exact rfl); (case aB => exact (by repeat (first | (with_reducible first | exact HB.out | apply bA | apply bN | apply bD | refine below_set ?_ GE259.out) | exact HB.out))); (case aF => exact (fun _ _ => trivial)); (case aO => exact (by (with_reducible repeat (first | apply rA | apply rN | apply rD)); exact HO_3.out)); (case aS => exact (below_size (by repeat (first | (with_reducible first | exact HB.out | apply bA | apply bN | apply bD | refine below_set ?_ GE259.out) | exact HB.out)))); (case aL => have := LMc12.out; omega); intro v262 w17 ho hb hg hat; rw [← Ny261.out] at ho; have n0_ := aM (Kd.R_over' (by (with_reducible repeat (first | apply rA | apply rN | apply rD)); exact HO_8.out) (Kd.R_typed (by (with_reducible repeat (first | apply rA | apply rN | apply rD)); exact HO_3.out)) (by decide) hg); have n1_ := aM (blk_grown (g := gb259) (o := .cells #[.int .i64 ((rd_T39 t255 x10_1).f0), .int .i64 ((rd_T39 t255 x10_1).f1)] 39 (0, 0)) (by (with_reducible repeat (first | refine blk_drewN ?_ _ | refine blk_drew ?_ | refine blk_alloc ?_ _)); exact BK259.out) hg (Kd.R_ne HO_3.out BK259.out (by decide))); have n2_ := aM (hb); have n3_ := aM (ho); clear HO_8; clear BK259; clear HB; clear HO_3; have HO_8 := n0_; have BK259 := n1_; have HB := n2_; have HO263 := n3_; clear n0_ n1_ n2_ n3_; clear ho hb hg hat))
        go_roundg k1
        case measure => have := HK1.out; omega
        case rel => exact ⟨(y261), (wrap64 (x10_1 + 1)), (by first | rfl | (simp; done) | (simp [*]; done)), H', ⟨by have := HK1.out; omega⟩, ⟨by (with_reducible repeat (first | apply rA | apply rN | apply rD)); exact HO263.out⟩, ⟨by (with_reducible repeat (first | apply rA | apply rN | apply rD)); exact Kd.R_mono HO_8.out (fun _ hk => trivial)⟩, ⟨by repeat (first | (with_reducible first | exact HB.out | apply bA | apply bN | apply bD | refine below_set ?_ GE259.out) | exact HB.out)⟩⟩
       ·rw [if_neg c12] at H
        exact absurd H (by simp)
      ·replace c11 := Bool.eq_false_iff.mpr c11
       subst c11
       have H1 : (impl_doubles.l0 k1 x3_1 t255 (t255.length : Int) (wrap64 (x10_1 + 1))) = some r := by rw [if_neg (show ¬ (false = true) by decide)] at H; exact H
       clear H
       have H := H1
       clear H1
       have H' := aM H
       clear H
       have p258 : 0 ≤ (x10_1 : Int) := oD (by first | (with_reducible assumption) | assumption)
       have q258 : x10_1 < (t255.length : Int) := oD (by first | (with_reducible assumption) | assumption)
       obtain ⟨ad258, e258, hx258_0, hx258_1⟩ := at_T39 (Kd.R_reads' HO_8.out).2.2 x10_1 p258 q258
       cases e258
       replace p258 := eq_true p258
       replace q258 := eq_true q258
       go_wp2_with (first | ((with_reducible refine gate_dst (N := 5) rfl ?_); refine box_event ?hg (N := 5) ?hd (cs := #[.int .i64 0, .int .i64 0]) (t := 39) ?hr ?_; (case hd => rfl); (case hg => rfl); (case hr => first | (go_simp; done) | (go_simp; rfl)); intro gb259 hg w18 hbox hb; have n0_ := aM (Kd.R_below (by (with_reducible repeat (first | apply rA | apply rN | apply rD)); exact HO_3.out) hb); have n1_ := aM (Kd.R_below (Kd.R_elderB (by (with_reducible repeat (first | apply rA | apply rN | apply rD)); exact HO_8.out) gb259 (Nat.le_of_eq hg.symm)) hb); have n2_ := aM (below_step (by repeat (first | (with_reducible first | exact HB.out | apply bA | apply bN | apply bD) | exact HB.out)) hb); have n3_ := aM (hbox); have n4_ := aM ((by rw [hg]; exact (below_size (by repeat (first | (with_reducible first | exact HB.out | apply bA | apply bN | apply bD) | exact HB.out))) : w.heap.size ≤ gb259)); have n5_ := aM ((by rw [hg]; exact (below_size (by repeat (first | (with_reducible first | exact HB.out | apply bA | apply bN | apply bD) | exact HB.out))) : w.heap.size ≤ gb259)); clear HO_3; clear HO_8; clear HB; have HO_3 := n0_; have HO_8 := n1_; have HB := n2_; have BK259 := n3_; have GW259 := n4_; have GE259 := n5_; clear n0_ n1_ n2_ n3_ n4_ n5_; clear hb hbox hg; have hcz19_0 : w18.cell? ⟨gb259, 0, none⟩ = some (.int .i64 0) := (blk_cell BK259.out 0).trans rfl; have hcz19_1 : w18.cell? ⟨gb259, 1, none⟩ = some (.int .i64 0) := (blk_cell BK259.out 1).trans rfl; have hfz19_0 := blk_frozen BK259.out 0; have hfz19_1 := blk_frozen BK259.out 1) | ((with_reducible refine gate_callee (f := 43) rfl ?_); refine goesL_ (some 15) rfl rfl Try.func43 (by kernel_rfl) rfl #[.agg #[.int .i64 ((rd_T39 t255 x10_1).f0), .int .i64 ((rd_T39 t255 x10_1).f1)]] rfl (by (try simp only [List.map_toArray, List.map_cons, List.map_nil]); first | done | rfl | (simp only [List.length_drop, List.length_take]; rfl)) ?_; (with_reducible refine (impl_isDouble.calls ((rd_T39 t255 x10_1).f0) ((rd_T39 t255 x10_1).f1) false _ A10.out).mono ?_); rintro e w20 ⟨rfl, hb⟩; refine ⟨_, rfl, ?_⟩; have n0_ := aM (Kd.R_below (by (with_reducible repeat (first | apply rA | apply rN | apply rD)); exact (Kd.R_mono (Kd.R_far (p := ⟨gb259, 1, none⟩) (Kd.R_far (p := ⟨gb259, 0, none⟩) (Kd.R_types HO_3.out BK259.out (by decide)) (fun _ hk => hk.2) (.int .i64 ((rd_T39 t255 x10_1).f0))) (fun _ hk => hk.2) (.int .i64 ((rd_T39 t255 x10_1).f1))) (fun _ h_ => h_.1))) hb); have n1_ := aM (Kd.R_below (by (with_reducible repeat (first | apply rA | apply rN | apply rD)); exact (Kd.R_mono (Kd.R_far (p := ⟨gb259, 1, none⟩) (Kd.R_far (p := ⟨gb259, 0, none⟩) (Kd.R_mono HO_8.out (fun k_ hk => (⟨hk, hk.2⟩ : _ ∧ k_ ≠ gb259))) (fun _ hk => hk.2) (.int .i64 ((rd_T39 t255 x10_1).f0))) (fun _ hk => hk.2) (.int .i64 ((rd_T39 t255 x10_1).f1))) (fun _ h_ => h_.1))) hb); have n2_ := aM (blk_below (g := gb259) (o := .cells #[.int .i64 ((rd_T39 t255 x10_1).f0), .int .i64 ((rd_T39 t255 x10_1).f1)] 39 (0, 0)) (by (with_reducible repeat (first | refine blk_drewN ?_ _ | refine blk_drew ?_ | refine blk_alloc ?_ _)); refine blk_put (cs := #[.int .i64 ((rd_T39 t255 x10_1).f0), .int .i64 0]) ?_ 1 _ rfl; (with_reducible repeat (first | refine blk_drewN ?_ _ | refine blk_drew ?_ | refine blk_alloc ?_ _)); refine blk_put (cs := #[.int .i64 0, .int .i64 0]) ?_ 0 _ rfl; (with_reducible repeat (first | refine blk_drewN ?_ _ | refine blk_drew ?_ | refine blk_alloc ?_ _)); exact BK259.out) hb); have n3_ := aM (below_step (by repeat (first | (with_reducible first | exact HB.out | apply bA | apply bN | apply bD | refine below_set ?_ GE259.out) | exact HB.out)) hb); clear HO_3; clear HO_8; clear BK259; clear HB; have HO_3 := n0_; have HO_8 := n1_; have BK259 := n2_; have HB := n3_; clear n0_ n1_ n2_ n3_; (try clear hb); (try clear hb2); (try clear hk); (try clear hi)))
       go_roundg k1
       case measure => have := HK1.out; omega
       case rel => exact ⟨(x3_1), (wrap64 (x10_1 + 1)), (by first | rfl | (simp; done) | (simp [*]; done)), H', ⟨by have := HK1.out; omega⟩, ⟨by (with_reducible repeat (first | apply rA | apply rN | apply rD)); exact HO_3.out⟩, ⟨by (with_reducible repeat (first | apply rA | apply rN | apply rD)); exact Kd.R_mono HO_8.out (fun _ hk => trivial)⟩, ⟨by repeat (first | (with_reducible first | exact HB.out | apply bA | apply bN | apply bD | refine below_set ?_ GE259.out) | exact HB.out)⟩⟩
     ·rw [if_neg c9] at H
      exact absurd H (by simp)
    ·rw [if_neg c8] at H
     exact absurd H (by simp)
   ·rw [if_neg c7] at H
    have c7b0 : decide (x10_1 < (t255.length : Int)) = false := decide_eq_false c7
    clear c7
    obtain rfl := Option.some.inj H
    go_wp2
    go_ret
    exact ⟨_, by first | rfl | (simp [errW_none, errW_some] <;> rfl) | (simp [*, errW_none, errW_some] <;> rfl), by (with_reducible repeat (first | apply rA | apply rN | apply rD)); exact HO_3.out, by repeat (first | (with_reducible first | exact HB.out | apply bA | apply bN | apply bD) | exact HB.out)⟩

end

end Go.Proofs.Ytnooegfhffhfpaa.P
