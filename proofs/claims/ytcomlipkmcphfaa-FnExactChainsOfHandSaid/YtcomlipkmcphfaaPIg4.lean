-- Printed by a program of this session (wip/myprint.py, which drives the kit's print): what one function of the program does, and the proof that its call does so.
import Derived.Lib.SliceRun
import Derived.WalkSpells
import Derived.Test.YtcomlipkmcphfaaP0
import Derived.Test.YtcomlipkmcphfaaPIf
import Derived.Test.YtcomlipkmcphfaaPIw
namespace Go.Proofs.Ytcomlipkmcphfaa.P
open Go.RowKit Go.Proofs.YtcomlipkmcphfaaW.PrintWords Go.Proofs.YtcomlipkmcphfaaW.PrintLast Go.Proofs.YtcomlipkmcphfaaW.PrintMore
attribute [local go_sem] max2_int min2_int max_two min_two max_three min_three max_four min_four   -- for this text's walks alone
set_option linter.unusedVariables false
set_option linter.unusedSimpArgs false

section
/-! ### impl_kept_1: function 80: written by hand -/
set_option maxHeartbeats 4000000 in
theorem impl_kept_1.gcalls (g : Nat) (lb : Array Value) (p : S41 → Bool) (x : S41) (b : Nat) (W : World) (eg : ∀ args w, (callFunc g args).run Try.prog w = .ok (.enter g args) w) (hc : W.cell? ⟨b, 0, none⟩ = some (.func (.func g) #[] lb)) (hp : PredTB g lb p W.heap.size W x) :
  Calls Try.prog 80 #[.agg #[.int .i64 x.f0, .int .i64 x.f1], .pointer (some ⟨b, 0, none⟩)] W fun e W' => e = .returned (.bool (!p x)) ∧ Below W.heap.size W W' := by
 have hlt := World.block_lt_of_cell? W _ hc
 have hcall : ∀ W', Below W.heap.size W W' → Calls Try.prog g (#[.agg #[.int .i64 x.f0, .int .i64 x.f1]] ++ lb) W' fun e W'' => e = .returned (.bool (p x)) ∧ Below W'.heap.size W' W'' := hp
 clear hp
 have hc2 : ∀ o, (W.alloc o).cell? ⟨b, 0, none⟩ = some (.func (.func g) #[] lb) := fun o => Lib.cell?_alloc_some o hc
 go_enter Try.func80, Try.ntmps80
 go_wp2_with (go_at_fn g; refine (hcall _ (by first | exact Below.refl _ _ | exact (Below.refl _ _).alloc (Nat.le_refl _) _)).mono ?_; rintro e w2 ⟨rfl, hb2⟩)
 go_ret
 exact ⟨by simp, by first | exact hb2 | exact below_then ((Below.refl _ _).alloc (Nat.le_refl _) _) (by simp) hb2⟩

end

section
/-! ### impl_kept: function 71: written by hand -/
set_option maxHeartbeats 8000000 in
set_option maxRecDepth 100000 in
theorem impl_kept.gcalls (g : Nat) (lb : Array Value) (p : S41 → Bool) (A0 : Option Addr) (c0 : Nat) (l0 : List S41) (w : World) (eg : ∀ args w, (callFunc g args).run Try.prog w = .ok (.enter g args) w) (hr0 : Kd.C k41 w A0 l0.length l0) (hc0 : l0.length ≤ c0)
  (hin : ∀ x ∈ l0, inT x) (hlen : l0.length < 8796093022208) (hp : ∀ x ∈ l0, PredTB g lb p w.heap.size w x) :
  Calls Try.prog 71 #[.slice A0 l0.length c0, .func (.func g) #[] lb] w fun e w' => ∃ v0_ : Value, e = .returned (v0_) ∧ Kd.R k41 41 w' w.heap.size (fun _ => True) v0_ ((l0.mergeSort leT).filter p) ∧ Below w.heap.size w w' := by
 have eg1 : ∀ args w, (callFunc 80 args).run Try.prog w = .ok (.enter 80 args) w := enters_of Try.func80 (by kernel_rfl) rfl
 have hso : ∀ o, Calls Try.prog 79 #[.slice A0 l0.length c0] (w.alloc o) fun e w' => ∃ v0_ : Value, e = .returned (v0_) ∧ Kd.R k41 41 w' (w.alloc o).heap.size (fun _ => True) v0_ (l0.mergeSort leT) ∧ Below (w.alloc o).heap.size (w.alloc o) w' := fun o =>
  impl_sorted.calls A0 c0 l0 (l0.mergeSort leT) (w.alloc o) (Kd.C_below hr0 ((Below.refl _ _).alloc (Nat.le_refl _) o)) hc0 (by unfold impl_sorted.f; rw [if_pos ⟨hlen, hin⟩])
 have hdel : ∀ (o : Obj) (W : World) (v : Value), (w.alloc o).cell? ⟨w.heap.size, 0, none⟩ = some (.func (.func g) #[] lb) → Kd.R k41 41 W (w.alloc o).heap.size (fun _ => True) v (l0.mergeSort leT) → Below (w.alloc o).heap.size (w.alloc o) W →
   Calls Try.prog 78 #[v, .func (.func 80) #[] #[.pointer (some ⟨w.heap.size, 0, none⟩)]] W fun e w' => ∃ v', e = .returned v' ∧ Kd.R k41 41 w' (w.alloc o).heap.size (fun _ => True) v' ((l0.mergeSort leT).filter p) ∧ Below (w.alloc o).heap.size W w' := by
  intro o W v hc ho hb
  have hlt : w.heap.size < (w.alloc o).heap.size := by simp
  have := slices_DeleteFunc_Tile.gcalls 80 #[.pointer (some ⟨w.heap.size, 0, none⟩)] (fun x => !p x) (w.alloc o).heap.size (fun _ => True) v (l0.mergeSort leT) W eg1 hb.size ho (fun x hx W' hb' => by
   have hb2 : Below w.heap.size w W' := (((Below.refl w.heap.size w).alloc (Nat.le_refl _) o).trans ((hb.trans hb').mono (Nat.le_of_lt hlt)))
   refine impl_kept_1.gcalls g lb p x w.heap.size W' eg (((hb.trans hb').cell (by simp)).trans hc) (fun W2 hb3 => hp x (List.mem_mergeSort.1 hx) W2 (hb2.trans (hb3.mono hb2.size))))
  simpa using this
 have HSO := aM hso
 have HDE := aM hdel
 have hmf : ∀ (fn : Fn) (first cap : Array Value) (w : World), (Instr.makeFunc fn first cap).run Try.prog w = .ok (.func fn first cap) w := fun _ _ _ _ => rfl
 clear hso hdel hp hin hr0 hc0 hlen eg eg1
 go_enter Try.func71, Try.ntmps71
 go_wp2_with (first | (go_at_call 79; refine (HSO.out _).mono ?_; rintro e w1 ⟨v1, rfl, ho1, hb1⟩; have HO1 := aM ho1; have HB1 := aM hb1; clear ho1 hb1) | (go_at_call 78; refine (HDE.out _ _ _ (by simp only [World.cell?, heap_alloc_new]; rfl) HO1.out HB1.out).mono ?_; rintro e w2 ⟨v2, rfl, ho2, hb2⟩))
 go_ret
 exact ⟨_, rfl, Kd.R_lower ho2 (by simp), ((Below.refl w.heap.size w).alloc (Nat.le_refl _) _).trans ((HB1.out.trans hb2).mono (by simp))⟩

end

section
/-! ### impl_parts_1: function 72: written by hand -/
set_option maxHeartbeats 4000000 in
theorem impl_parts_1.gcalls (k : Nat) (x : S41) (A1 : Option Addr) (c1 : Nat) (l1 : List Int) (b : Nat) (r : Bool) (W : World) (hr1 : Kd.C (Kd.int .i64) W A1 l1.length l1) (hc1 : l1.length ≤ c1) (hc : W.cell? ⟨b, 0, none⟩ = some (.slice A1 l1.length c1)) (h : slices_Contains_int.f k l1 x.f0 = some r) :
  Calls Try.prog 72 #[.agg #[.int .i64 x.f0, .int .i64 x.f1], .pointer (some ⟨b, 0, none⟩)] W fun e W' => e = .returned (.bool r) ∧ Below W.heap.size W W' := by
 have hlt := World.block_lt_of_cell? W _ hc
 have hcall : ∀ W', Below W.heap.size W W' → Calls Try.prog 49 #[.slice A1 l1.length c1, .int .i64 x.f0] W' fun e W'' => e = .returned (.bool r) ∧ Below W'.heap.size W' W'' := fun W' hb => (slices_Contains_int.calls k A1 c1 l1 x.f0 r W' (Kd.C_below hr1 hb) hc1 h).mono fun e W'' ⟨he, hd⟩ => ⟨he, by first | exact hd | exact hd.below⟩
 have HC := aM hcall
 clear hcall hr1 hc1 h
 have hc2 : ∀ o, (W.alloc o).cell? ⟨b, 0, none⟩ = some (.slice A1 l1.length c1) := fun o => Lib.cell?_alloc_some o hc
 go_enter Try.func72, Try.ntmps72
 go_wp2_with (go_at_call 49; refine (HC.out _ (by first | exact Below.refl _ _ | exact (Below.refl _ _).alloc (Nat.le_refl _) _)).mono ?_; rintro e w2 ⟨rfl, hb2⟩)
 go_ret
 exact ⟨by simp, by first | exact hb2 | exact below_then ((Below.refl _ _).alloc (Nat.le_refl _) _) (by simp) hb2⟩

end

section
/-! ### impl_parts: function 54: written by hand -/
/-- The tiles of one group. -/
def partOf (l0 : List S41) (g : List Int) : List S41 := (l0.mergeSort leT).filter fun x => decide (x.f0 ∈ g)
theorem infoRowT : (Try.prog.info? 27).map (fun i => (i.zero, i.size, i.bytes)) = some (some (.slice none 0 0), 1, 24) := by kernel_rfl
def impl_parts.f (k : Nat) (l0 : List S41) : Option (List (List S41)) := (impl_groups.f k l0).bind fun gs => if l0.length < 8796093022208 ∧ (∀ x ∈ l0, inT x) ∧ gs.length ≤ 1000 ∧ (∀ g ∈ gs, ∀ x ∈ l0, slices_Contains_int.f k g x.f0 = some (decide (x.f0 ∈ g))) then some (gs.map (partOf l0)) else none
theorem impl_parts.mono : ∀ a0 k, LeO (impl_parts.f k a0) (impl_parts.f (k + 1) a0) := by
 intro a0 k r h
 unfold impl_parts.f at h ⊢
 obtain ⟨gs, h1, h2⟩ := Option.bind_eq_some_iff.1 h
 rw [impl_groups.mono _ _ _ h1, Option.bind_some]
 by_cases c : a0.length < 8796093022208 ∧ (∀ x ∈ a0, inT x) ∧ gs.length ≤ 1000 ∧ (∀ g ∈ gs, ∀ x ∈ a0, slices_Contains_int.f k g x.f0 = some (decide (x.f0 ∈ g)))
 ·rw [if_pos c] at h2
  rw [if_pos ⟨c.1, c.2.1, c.2.2.1, fun g hg x hx => slices_Contains_int.mono _ _ _ _ (c.2.2.2 g hg x hx)⟩]
  exact h2
 ·rw [if_neg c] at h2; cases h2
set_option maxHeartbeats 8000000 in
set_option maxRecDepth 100000 in
theorem impl_parts.calls (k : Nat) (A0 : Option Addr) (c0 : Nat) (l0 : List S41) (r : List (List S41)) (w : World) (hr0 : Kd.C k41 w A0 l0.length l0) (hc0 : l0.length ≤ c0) (h : impl_parts.f k l0 = some r) :
  Calls Try.prog 54 #[.slice A0 l0.length c0] w fun e w' => ∃ v0_ : Value, e = .returned (v0_) ∧ Kd.S (Kd.slice 41 k41) 27 w' w.heap.size (fun _ => True) v0_ r ∧ Below w.heap.size w w' := by
 have eg : ∀ args w, (callFunc 72 args).run Try.prog w = .ok (.enter 72 args) w := enters_of Try.func72 (by kernel_rfl) rfl
 have hmf : ∀ (fn : Fn) (first cap : Array Value) (w : World), (Instr.makeFunc fn first cap).run Try.prog w = .ok (.func fn first cap) w := fun _ _ _ _ => rfl
 unfold impl_parts.f at h
 obtain ⟨gs, h1, h⟩ := Option.bind_eq_some_iff.1 h
 by_cases c : l0.length < 8796093022208 ∧ (∀ x ∈ l0, inT x) ∧ gs.length ≤ 1000 ∧ (∀ g ∈ gs, ∀ x ∈ l0, slices_Contains_int.f k g x.f0 = some (decide (x.f0 ∈ g)))
 case neg => rw [if_neg c] at h; cases h
 rw [if_pos c] at h
 obtain rfl := Option.some.inj h
 have HR0 := aM hr0
 have HC := aM c
 have hgl := c.2.2.1
 have HG : ∀ W, Below w.heap.size w W → Calls Try.prog 41 #[.slice A0 l0.length c0] W fun e w' => ∃ v0_ : Value, e = .returned (v0_) ∧ Kd.S (Kd.slice 3 (Kd.int .i64)) 24 w' W.heap.size (fun _ => True) v0_ gs ∧ Below W.heap.size W w' := fun W hb => impl_groups.calls k A0 c0 l0 gs W (Kd.C_below hr0 hb) hc0 h1
 have HGR := aM HG
 clear h hr0 c HG h1
 go_enter Try.func54, Try.ntmps54
 go_wp2_with (go_at_call 41; refine (HGR.out _ (by first | exact Below.refl _ _ | exact (Below.refl _ _).alloc (Nat.le_refl _) _)).mono ?_; rintro e w1 ⟨v1, rfl, ho1, hb1⟩; obtain ⟨A1, c1, rfl⟩ := Kd.S_slice ho1; have HO1 := aM ho1; have HB1 := aM hb1; clear ho1 hb1)
 have hS1 : Kd.S (Kd.slice 41 k41) 27 w1 w.heap.size (fun _ => True) (.slice (some ⟨w.heap.size, 0, none⟩) 0 0) [] := by
  refine ⟨fun _ => 0, fun b hb => trivial, [], ⟨rfl, .inr ⟨w.heap.size, 0, #[], rfl, Nat.le_refl _, ?_, Nat.le_refl _, by simp [maxLen], rfl, rfl⟩⟩, rfl, fun j p hj => by simp at hj⟩
  rw [HB1.out.block _ (by simp)]; exact heap_alloc_new _ _
 have HS1 := aM hS1
 have HBW := aM (below_then ((Below.refl w.heap.size w).alloc (Nat.le_refl _) (.cells #[] 27)) (by simp) HB1.out)
 have HO1' := aM (Kd.S_lower HO1.out (show w.heap.size ≤ _ by simp))
 clear hS1 HO1
 go_loopg [3, 10] gs.length (fun gg s3 s10 wx => ∃ (i : Nat) (outs : List (List S41)), s10 = .int .i64 i ∧ i ≤ gs.length ∧ gs.length - i ≤ gg ∧ outs.length = i ∧ Aside0 (Kd.S (Kd.slice 41 k41) 27 wx w.heap.size (fun _ => True) s3 outs) ∧ Aside0 (outs ++ (gs.drop i).map (partOf l0) = gs.map (partOf l0)) ∧ Aside0 (Kd.S (Kd.slice 3 (Kd.int .i64)) 24 wx w.heap.size (fun _ => True) (.slice A1 gs.length c1) gs) ∧ Aside0 (Below w.heap.size w wx))
 case atStart => exact ⟨0, [], rfl, by omega, by omega, rfl, HS1, ⟨rfl⟩, HO1', HBW⟩
 case round =>
  clear HS1 HBW HO1' HB1
  obtain ⟨i, outs, rfl, hi, hgg, hol, HOS, HOG, HTH, HBL⟩ := hrel
  by_cases hlt : i < gs.length
  ·have hltz : (i : Int) < (gs.length : Int) := by omega
   obtain ⟨gi, hgi⟩ : ∃ g, gs[i]? = some g := ⟨_, List.getElem?_eq_getElem hlt⟩
   have hgd : gs.getD i [] = gi := by rw [List.getD_eq_getElem?_getD, hgi]; rfl
   have hgm : gi ∈ gs := List.mem_of_getElem? hgi
   obtain ⟨ad, cs, rfl, _, ⟨Ai, ci, rfl, hci, hCi⟩, hcc⟩ := ReadsRow.get_ (Kd.S_reads' HTH.out).2.2 [] (i : Int) (by omega) hltz
   rw [Int.toNat_natCast, hgd] at hci hCi hcc
   obtain ⟨g1, rfl⟩ := Kd.R_head (Kd.S_R HTH.out)
   have hx0 : wr.cell? ⟨g1, i, none⟩ = some (.slice Ai gi.length ci) := by
    have := hcc 0 _ rfl
    rw [add_plain, Nat.add_zero, show i * (Kd.slice 3 (Kd.int .i64)).sz = i from Nat.mul_one i] at this
    exact this
   have hxA : ∀ o, (wr.alloc o).cell? ⟨g1, i, none⟩ = some (.slice Ai gi.length ci) := fun o => Lib.cell?_alloc_some o hx0
   have hW1 : (wr.alloc (.cells #[.slice Ai gi.length ci] 24)).heap.size = wr.heap.size + 1 := by simp
   have hkept : Calls Try.prog 71 #[.slice A0 l0.length c0, .func (.func 72) #[] #[.pointer (some ⟨wr.heap.size, 0, none⟩)]] (wr.alloc (.cells #[.slice Ai gi.length ci] 24)) fun e w' => ∃ v0_ : Value, e = .returned (v0_) ∧ Kd.R k41 41 w' (wr.alloc (.cells #[.slice Ai gi.length ci] 24)).heap.size (fun _ => True) v0_ (partOf l0 gi) ∧ Below (wr.alloc (.cells #[.slice Ai gi.length ci] 24)).heap.size (wr.alloc (.cells #[.slice Ai gi.length ci] 24)) w' := by
    refine impl_kept.gcalls 72 #[.pointer (some ⟨wr.heap.size, 0, none⟩)] (fun x => decide (x.f0 ∈ gi)) A0 c0 l0 _ eg (Kd.C_below HR0.out (HBL.out.alloc HBL.out.size _)) hc0 HC.out.2.1 HC.out.1 (fun x hx W hb => ?_)
    have hcell : (wr.alloc (.cells #[.slice Ai gi.length ci] 24)).cell? ⟨wr.heap.size, 0, none⟩ = some (.slice Ai gi.length ci) := by simp only [World.cell?, heap_alloc_new]; rfl
    exact impl_parts_1.gcalls k x Ai ci gi wr.heap.size _ W (Kd.C_below (Kd.C_below hCi ((Below.refl _ _).alloc (Nat.le_refl _) _)) hb) hci ((hb.cell (World.block_lt_of_cell? _ _ hcell)).trans hcell) (HC.out.2.2.2 gi hgm x hx)
   have HKP := aM hkept
   have hnx : (outs ++ [partOf l0 gi]) ++ (gs.drop (i + 1)).map (partOf l0) = gs.map (partOf l0) := by
    have := HOG.out
    rw [List.drop_eq_getElem_cons hlt, List.map_cons] at this
    rw [List.getElem?_eq_getElem hlt] at hgi
    rw [Option.some.inj hgi] at this
    rw [List.append_assoc, List.singleton_append]; exact this
   have HNX := aM hnx
   have HBDS := aM (Kd.S_bound HOS.out)
   have HLT := aM (Kd.S_lt HOS.out)
   clear hkept hnx hcc hCi hgi hgd hgm
   obtain ⟨pt, hpt⟩ : ∃ p, p = partOf l0 gi := ⟨_, rfl⟩
   rw [← hpt] at HKP HNX
   clear hpt
   go_wp2_with (first | (go_at_call 71; refine HKP.out.mono ?_; rintro e w3 ⟨v3, rfl, ho3, hb3⟩; obtain ⟨A3, c3, rfl, hl3, _⟩ := Kd.R_reads ho3; have HO3 := aM ho3; have HBA := aM (Kd.R_base ho3); have HB3 := aM (((Below.refl wr.heap.size wr).alloc (Nat.le_refl _) _).trans (hb3.mono (by omega))); clear ho3 hb3) | ((with_reducible refine gate_builtin (b := .append) (xs := #[.tmp 14, .tmp 18]) rfl ?_); at_builtin; refine Kd.S_append (Kd.slice 41 k41) (w0 := w) w.heap.size rfl (.tmp 14) (.tmp 18) 47 27 (.slice none 0 0) 24 rfl Try.underlying47 infoRowT rfl (by decide) (by omega) u3 outs pt [.slice A3 pt.length c3] (fun _ => True) (fun b => some b = (.slice A3 pt.length c3 : Value).ownBlock) rfl ?aX ?aP ?aK ?aF ?aO ?aB ?aS (by omega) ?_; (case aX => rfl); (case aP => exact Kd.M_row (Kd.R_lower (Kd.R_tight rfl HO3.out) (by have := HBL.out.size; omega))); (case aK => intro b hb; have h1 := HBA.out b hb.symm; exact ⟨trivial, fun e => by have := HLT.out b e.symm; omega⟩); (case aF => exact fun _ _ => trivial); (case aO => exact Kd.S_mono (Kd.S_below HBDS.out HB3.out) (fun b hb => ⟨trivial, fun e => by have h1 := HBA.out b e.symm; have h2 := hb.2.2.1; omega⟩)); (case aB => exact below_then HBL.out HBL.out.size HB3.out); (case aS => exact Nat.le_trans HBL.out.size HB3.out.size); intro v5 w5 ho5 hb5 hg5 hat5; have HO5 := aM ho5; have HB5 := aM hb5; have HG5 := aM hg5; clear ho5 hb5 hg5 hat5))
   go_roundg (gs.length - (i + 1))
   case measure => omega
   case rel =>
    have hty : ∀ b, (u3 : Value).ownBlock = some b → ∃ cells, _ := Kd.S_typed (Kd.S_below HOS.out HB3.out)
    exact ⟨i + 1, outs ++ [pt], by go_num, by omega, Nat.le_refl _, by rw [List.length_append, List.length_singleton, hol], HO5, HNX, ⟨Kd.S_over' (Kd.S_below HTH.out HB3.out) hty (by decide) HG5.out⟩, HB5⟩
  ·obtain rfl : i = gs.length := by omega
   have hltz : ¬ (gs.length : Int) < (gs.length : Int) := by omega
   have hfin : outs = gs.map (partOf l0) := by
    have := HOG.out
    rw [List.drop_length] at this
    simpa using this
   have HFIN := aM hfin
   clear hfin
   go_wp2
   go_ret
   refine ⟨_, rfl, ?_, HBL.out⟩
   rw [← HFIN.out]
   exact HOS.out

end

end Go.Proofs.Ytcomlipkmcphfaa.P
