/- Plain lists and numbers: what the program's functions and the reference's compute. -/
import Derived.Test.YtdpimdaofikmjaaP0
import Derived.Test.YtdpimdaofikmjaaPFRenameHand
import Derived.Test.YtdpimdaofikmjaaPIb
import Derived.Test.YtdpimdaofikmjaaPIc
import Derived.Test.YtdpimdaofikmjaaPSa
import Derived.Test.YtdpimdaofikmjaaPSb
import Derived.Test.YtdpimdaofikmjaaPimplTilerenamed
import Derived.Test.YtdpimdaofikmjaaPimplareDifferentint
import Derived.Test.YtdpimdaofikmjaaPimplareNames
import Derived.Test.YtdpimdaofikmjaaPimplrenamedHand
import Derived.Test.YtdpimdaofikmjaaQChain
import Derived.Test.YtdpimdaofikmjaaQDiffI
import Derived.Test.YtdpimdaofikmjaaQHand
import Derived.Test.YtdpimdaofikmjaaQIntHas
import Derived.Test.YtdpimdaofikmjaaQPick
import Derived.Test.YtdpimdaofikmjaaQScaf
import Derived.Test.YtdpimdaofikmjaaQScaf2
import Derived.Test.YtdpimdaofikmjaaQSorted
namespace Go.Proofs.Ytdpimdaofikmjaa.Q
open Go.RowKit Go.Proofs.Ytdpimdaofikmjaa.P Go.Proofs.YtdpimdaofikmjaaW.PrintWords Go.Proofs.YtdpimdaofikmjaaW.PrintLast Go.Proofs.YtdpimdaofikmjaaW.PrintMore
set_option linter.unusedVariables false
set_option linter.unusedSimpArgs false

theorem nodup_leG {α : Type} [DecidableEq α] : ∀ (l s : List α), l.Nodup → (∀ x ∈ l, x ∈ s) → l.length ≤ s.length
  | [], s, _, _ => Nat.zero_le _
  | x :: l, s, hn, hs => by
    obtain ⟨h1, h2⟩ := List.nodup_cons.1 hn
    have hx := hs x List.mem_cons_self
    have := nodup_leG l (s.erase x) h2 (fun y hy => (List.mem_erase_of_ne (fun e => h1 (by rw [← e]; exact hy))).2 (hs y (List.mem_cons_of_mem _ hy)))
    rw [List.length_erase_of_mem hx] at this
    have hp := List.length_pos_of_mem hx
    rw [List.length_cons]
    omega
theorem nodup_of_leG {α : Type} [DecidableEq α] : ∀ (l r : List α), r.Nodup → (∀ x ∈ r, x ∈ l) → l.length ≤ r.length → l.Nodup
  | [], _, _, _, _ => List.nodup_nil
  | x :: l, r, hn, hs, hl => by
    rw [List.length_cons] at hl
    have hx : x ∉ l := by
      intro hx
      have := nodup_leG r l hn (fun y hy => by
        rcases List.mem_cons.1 (hs y hy) with rfl | h
        · exact hx
        · exact h)
      omega
    refine List.nodup_cons.2 ⟨hx, nodup_of_leG l (r.erase x) (hn.erase x) (fun y hy => ?_) ?_⟩
    · have h1 := List.mem_of_mem_erase hy
      rcases List.mem_cons.1 (hs y h1) with rfl | h
      · exact absurd hy (hn.not_mem_erase)
      · exact h
    · have := List.length_erase (a := x) (l := r)
      rw [this]
      split <;> omega
def ten : List Int := [0, 1, 2, 3, 4, 5, 6, 7, 8, 9]
theorem mem_ten (n : Int) : n ∈ ten ↔ 0 ≤ n ∧ n ≤ 9 := by
  unfold ten
  simp only [List.mem_cons, List.not_mem_nil, or_false]
  omega
theorem names_iff (l : List Int) (h : l.length = 10) : (∀ n ∈ ten, n ∈ l) ↔ ((l.all fun n => decide (0 ≤ n) && decide (n ≤ 9)) = true ∧ l.Nodup) := by
  have nt : ten.Nodup := by decide
  have lt : ten.length = 10 := rfl
  constructor
  · intro hs
    refine ⟨?_, nodup_of_leG l ten nt hs (by omega)⟩
    rw [List.all_eq_true]
    intro x hx
    by_cases c : x ∈ ten
    · have := (mem_ten x).1 c
      simp [this]
    · have := nodup_leG (x :: ten) l (List.nodup_cons.2 ⟨c, nt⟩) (fun y hy => by
        rcases List.mem_cons.1 hy with rfl | hy
        · exact hx
        · exact hs y hy)
      rw [List.length_cons] at this
      omega
  · rintro ⟨ha, hn⟩ n hnt
    rw [List.all_eq_true] at ha
    by_cases c : n ∈ l
    · exact c
    · have := nodup_leG (n :: l) ten (List.nodup_cons.2 ⟨c, hn⟩) (fun y hy => by
        rcases List.mem_cons.1 hy with rfl | hy
        · exact hnt
        · have := ha y hy
          rw [mem_ten]; simpa using this)
      rw [List.length_cons] at this
      omega
/-- A tile with other numbers. -/
def rnT (l : List Int) (t : S67) : S67 := mkT (rd l t.f0) (rd l t.f1)
theorem rd_get (l : List Int) (i : Int) (h0 : 0 ≤ i) (h : i < l.length) : rd l i = l[i.toNat]'(by omega) := by
  obtain ⟨n, rfl⟩ := Int.eq_ofNat_of_zero_le h0
  exact rd_nat l n _ (List.getElem?_eq_getElem (by omega))
theorem rnT_good {l : List Int} (hl : l.length = 10) (hi : ∀ n ∈ l, 0 ≤ n ∧ n ≤ 9) {t : S67} (h : goodT t = true) : goodT (rnT l t) = true := by
  rw [goodT_iff] at h
  unfold rnT
  rw [rd_get l _ (by omega) (by omega), rd_get l _ (by omega) (by omega)]
  exact mkT_good _ _ (hi _ (List.getElem_mem _)) (hi _ (List.getElem_mem _))
theorem mkT_inj {a b c d : Int} (h : mkT a b = mkT c d) : (a = c ∧ b = d) ∨ (a = d ∧ b = c) := by
  rw [tile_ext] at h
  unfold mkT at h
  simp only at h
  obtain ⟨h1, h2⟩ := h
  by_cases e : a < b
  · rw [if_pos e] at h1 h2
    by_cases f : c < d
    · rw [if_pos f] at h1 h2; omega
    · rw [if_neg f] at h1 h2; omega
  · rw [if_neg e] at h1 h2
    by_cases f : c < d
    · rw [if_pos f] at h1 h2; omega
    · rw [if_neg f] at h1 h2; omega
theorem rd_inj {l : List Int} (hn : l.Nodup) {i j : Int} (hi : 0 ≤ i ∧ i < l.length) (hj : 0 ≤ j ∧ j < l.length) (h : rd l i = rd l j) : i = j := by
  rw [rd_get l _ hi.1 hi.2, rd_get l _ hj.1 hj.2] at h
  have hp := List.pairwise_iff_getElem.1 hn
  rcases Nat.lt_trichotomy i.toNat j.toNat with c | c | c
  · exact absurd h (hp _ _ (by omega) (by omega) c)
  · omega
  · exact absurd h.symm (hp _ _ (by omega) (by omega) c)
theorem rnT_inj {l : List Int} (hl : l.length = 10) (hn : l.Nodup) {s t : S67} (hs : goodT s = true) (ht : goodT t = true) (h : rnT l s = rnT l t) : s = t := by
  rw [goodT_iff] at hs ht
  rw [tile_ext]
  rcases mkT_inj h with ⟨h1, h2⟩ | ⟨h1, h2⟩
  · exact ⟨rd_inj hn (by omega) (by omega) h1, rd_inj hn (by omega) (by omega) h2⟩
  · have e1 := rd_inj hn (i := s.f0) (j := t.f1) (by omega) (by omega) h1
    have e2 := rd_inj hn (i := s.f1) (j := t.f0) (by omega) (by omega) h2
    omega
theorem rnT_nodup {l : List Int} (hl : l.length = 10) (hn : l.Nodup) : ∀ {h : List S67}, (∀ x ∈ h, goodT x = true) → h.Nodup → (h.map (rnT l)).Nodup
  | [], _, _ => List.nodup_nil
  | x :: h, hg, hd => by
    obtain ⟨h1, h2⟩ := List.nodup_cons.1 hd
    rw [List.map_cons, List.nodup_cons]
    refine ⟨fun hm => ?_, rnT_nodup hl hn (fun y hy => hg y (List.mem_cons_of_mem _ hy)) h2⟩
    obtain ⟨y, hy, e⟩ := List.mem_map.1 hm
    have := rnT_inj hl hn (hg y (List.mem_cons_of_mem _ hy)) (hg x List.mem_cons_self) e
    exact h1 (this ▸ hy)
theorem rename_loop1 (l : List Int) (hl : l.length = 10) (h : List S67) (hg : ∀ x ∈ h, goodT x = true) (hs : h.length ≤ 55) : ∀ d i (acc : List S67), i + d = h.length → acc.length ≤ i → Ev (fun k => spec_RenameHand.l1 k l acc h (h.length : Int) (i : Int)) (sortN (acc ++ (h.drop i).map (rnT l)), true) := by
  intro d
  induction d with
  | zero =>
    intro i acc hid ha
    rw [List.drop_of_length_le (by omega), List.map_nil, List.append_nil]
    refine Ev.step (f := fun k => (spec_tiSort.f k acc).bind fun t => some (t, true)) (fun k => ?_) (Ev.bind (tiSort_ev acc (by omega)) (Ev.now _))
    simp only [spec_RenameHand.l1]
    rw [if_neg (by omega)]
  | succ d ih =>
    intro i acc hid ha
    have hi : i < h.length := by omega
    obtain ⟨x, hx⟩ : ∃ x, h[i]? = some x := ⟨_, List.getElem?_eq_getElem hi⟩
    have hgx := hg x (List.mem_of_getElem? hx)
    rw [goodT_iff] at hgx
    have hd : h.drop i = x :: h.drop (i + 1) := by
      rw [List.drop_eq_getElem_cons hi]
      rw [List.getElem?_eq_getElem hi] at hx
      cases hx; rfl
    have := ih (i + 1) (acc ++ [rnT l x]) (by omega) (by simp; omega)
    rw [List.append_assoc] at this
    rw [hd, List.map_cons]
    refine Ev.step (fun k => ?_) this
    simp only [spec_RenameHand.l1]
    rw [if_pos (by omega), if_pos (by omega), if_pos (by omega), rdT_nat h i x hx, if_pos (by omega), if_pos (by omega), if_pos (by omega), if_pos (by omega), tiOf_some, Option.bind_some, if_pos (by omega), wrap_succ (by omega)]
    rfl
theorem rename_loopI (l : List Int) (hl : l.length = 10) (hi9 : ∀ n ∈ l, 0 ≤ n ∧ n ≤ 9) (hnd : l.Nodup) (h : List S67) (hg : ∀ x ∈ h, goodT x = true) (hh : h.Nodup) (hs : h.length ≤ 55) : ∀ d i (acc : List S67), i + d = h.length → acc = (h.take i).map (rnT l) → Ev (fun k => impl_renamedHand.l0 k l acc h (h.length : Int) (i : Int)) (sortN (h.map (rnT l))) := by
  intro d
  induction d with
  | zero =>
    intro i acc hid ha
    rw [List.take_of_length_le (by omega)] at ha
    subst ha
    refine Ev.step (f := fun k => some (sortN (h.map (rnT l)))) (fun k => ?_) (Ev.now _)
    simp only [impl_renamedHand.l0]
    rw [if_neg (by omega), sorted_some (fun x hx => by
      obtain ⟨y, hy, rfl⟩ := List.mem_map.1 hx
      exact rnT_good hl hi9 (hg y hy)) (rnT_nodup hl hnd hg hh) (by simp; omega)]
    rfl
  | succ d ih =>
    intro i acc hid ha
    have hi : i < h.length := by omega
    obtain ⟨x, hx⟩ : ∃ x, h[i]? = some x := ⟨_, List.getElem?_eq_getElem hi⟩
    have hgx := hg x (List.mem_of_getElem? hx)
    rw [goodT_iff] at hgx
    have hal : acc.length = i := by rw [ha]; simp; omega
    have := ih (i + 1) (acc ++ [rnT l x]) (by omega) (by rw [ha, take_snoc h i x hx, List.map_append]; rfl)
    have hren : impl_Tile_renamed.f x.f0 x.f1 l = some ((rnT l x).f0, (rnT l x).f1) := by
      unfold impl_Tile_renamed.f
      rw [if_pos (by omega), if_pos (by omega), if_pos (by omega), if_pos (by omega), tile_some]
      rfl
    refine Ev.step (fun k => ?_) this
    simp only [impl_renamedHand.l0]
    rw [if_pos (by omega), if_pos (by omega), if_pos (by omega), rdT_nat h i x hx, hren, Option.bind_some, if_pos (by omega), wrap_succ (by omega)]
theorem rename_loop0 (l : List Int) (hl : l.length = 10) (h : List S67) (hg : ∀ x ∈ h, goodT x = true) (hs : h.length ≤ 55) : ∀ d i : Nat, i + d = 10 → Ev (fun k => spec_RenameHand.l0 k h l (l.length : Int) (i : Int)) (if ∀ n ∈ ten, (i : Int) ≤ n → n ∈ l then (sortN (h.map (rnT l)), true) else ([], false)) := by
  intro d
  induction d with
  | zero =>
    intro i hid
    obtain rfl : i = 10 := by omega
    rw [if_pos (fun n hn hle => by have := (mem_ten n).1 hn; omega)]
    have := rename_loop1 l hl h hg hs h.length 0 [] (by omega) (by simp)
    refine Ev.step (fun k => ?_) this
    simp only [spec_RenameHand.l0]
    rw [if_neg (by omega)]
    rfl
  | succ d ih =>
    intro i hid
    have hh := hasI_ev l (i : Int) (by omega)
    refine Ev.step (f := fun k => (spec_l1Has.f k l (i : Int)).bind fun t => if t = true then spec_RenameHand.l0 k h l (l.length : Int) ((i + 1 : Nat) : Int) else some ([], false)) (fun k => ?_) (Ev.bind hh ?_)
    · simp only [spec_RenameHand.l0]
      rw [if_pos (by omega), wrap_succ (by omega)]
    · by_cases c : (i : Int) ∈ l
      · have e : (∀ n ∈ ten, (i : Int) ≤ n → n ∈ l) ↔ (∀ n ∈ ten, ((i + 1 : Nat) : Int) ≤ n → n ∈ l) := by
          constructor
          · intro h1 n hn hle
            exact h1 n hn (by omega)
          · intro h1 n hn hle
            by_cases e : n = (i : Int)
            · rw [e]; exact c
            · exact h1 n hn (by omega)
        have := ih (i + 1) (by omega)
        refine Ev.congr (fun k => by rw [if_pos (decide_eq_true c)]) ?_
        by_cases g : ∀ n ∈ ten, (i : Int) ≤ n → n ∈ l
        · rw [if_pos g]; rw [if_pos (e.1 g)] at this; exact this
        · rw [if_neg g]; rw [if_neg (fun x => g (e.2 x))] at this; exact this
      · rw [if_neg (fun g => c (g (i : Int) ((mem_ten _).2 (by omega)) (Int.le_refl _)))]
        exact ev_const fun k => by rw [if_neg (by simpa using c)]
theorem RenameHand_same (h : List S67) (l : List Int) (hl : l.length ≤ 1048576) : ∃ r, Ev (fun k => spec_RenameHand.f k h l) r ∧ Ev (fun k => impl_RenameHand.f k h l) r ∧ r.1.length ≤ 1048576 := by
  have h1 := tiHand_ev h
  have h2 := IsHand_ev h
  have sbad : Ev (fun k => spec_RenameHand.j0 k h l true) ([], false) := ⟨1, fun k hk => by obtain ⟨k, rfl⟩ : ∃ m, k = m + 1 := ⟨k - 1, by omega⟩; simp only [spec_RenameHand.j0, ↓reduceIte]⟩
  cases hc : handB h with
  | false =>
    rw [hc] at h1 h2
    exact ⟨([], false), bind_false h1 sbad, bind_false h2 (Ev.now _), by simp⟩
  | true =>
    rw [hc] at h1 h2
    have na := handB_len hc
    by_cases h10 : l.length = 10
    · have hs := sortN_length (h.map (rnT l))
      have hloop := rename_loop0 l h10 h (handB_good hc) na 10 0 (by omega)
      have sgo : ∀ r, Ev (fun k => spec_RenameHand.l0 k h l (l.length : Int) ((0 : Nat) : Int)) r → Ev (fun k => spec_RenameHand.f k h l) r := fun r hr => bind_true h1 (by
        refine Ev.step (f := fun k => spec_RenameHand.l0 k h l (l.length : Int) 0) (fun k => ?_) hr
        have : ((l.length : Int) != 10) = false := by rw [h10]; rfl
        simp only [spec_RenameHand.j0, this, Bool.false_eq_true, ↓reduceIte])
      have hwi : impl_areWithin.f l 0 9 = some (l.all fun n => decide (0 ≤ n) && decide (n ≤ 9)) := rfl
      have hdf := differentI_ev l (by omega)
      have hnm : ∀ r, ((l.all fun n => decide (0 ≤ n) && decide (n ≤ 9)) = true → Ev (fun k => (impl_areDifferent_int.f k l).bind fun t => some t) r) → ((l.all fun n => decide (0 ≤ n) && decide (n ≤ 9)) = false → r = false) → Ev (fun k => impl_areNames.f k l) r := by
        intro r ht hf
        unfold impl_areNames.f
        cases ha : (l.all fun n => decide (0 ≤ n) && decide (n ≤ 9)) with
        | true => exact Ev.congr (fun k => by rw [if_pos (by omega), hwi, ha, Option.bind_some, if_pos rfl]) (ht ha)
        | false => rw [hf ha]; exact ev_const fun k => by rw [if_pos (by omega), hwi, ha, Option.bind_some, if_neg (by decide)]
      have hiff := names_iff l h10
      by_cases g : ∀ n ∈ ten, n ∈ l
      · rw [if_pos (fun n hn _ => g n hn)] at hloop
        obtain ⟨ha, hn⟩ := hiff.1 g
        have hi9 : ∀ n ∈ l, 0 ≤ n ∧ n ≤ 9 := fun n hn => by have := List.all_eq_true.1 ha n hn; simpa using this
        have hnames := hnm true (fun _ => by rw [decide_eq_true hn] at hdf; exact Ev.bind hdf (Ev.now _)) (fun h => by rw [ha] at h; cases h)
        have hi := rename_loopI l h10 hi9 hn h (handB_good hc) (handB_nodup hc) na h.length 0 [] (by omega) (by simp)
        exact ⟨(sortN (h.map (rnT l)), true), sgo _ hloop, bind_true h2 (bind_true hnames (Ev.bind (g := fun k => impl_renamedHand.f k h l) hi (Ev.now _))), by simp only; omega⟩
      · rw [if_neg (fun x => g (fun n hn => x n hn (by have := (mem_ten n).1 hn; omega)))] at hloop
        have hnames := hnm false (fun ha => by
          have hn : ¬ l.Nodup := fun hn => g (hiff.2 ⟨ha, hn⟩)
          rw [decide_eq_false hn] at hdf; exact Ev.bind hdf (Ev.now _)) (fun _ => rfl)
        exact ⟨([], false), sgo _ hloop, bind_true h2 (bind_false hnames (Ev.now _)), by simp⟩
    · have hb : ((l.length : Int) != 10) = true := by rw [bne_iff_ne]; omega
      have hnames : Ev (fun k => impl_areNames.f k l) false := ev_const fun k => by unfold impl_areNames.f; rw [if_neg (by omega)]
      exact ⟨([], false), bind_true h1 (Ev.congr (fun k => by rw [hb]) sbad), bind_true h2 (bind_false hnames (Ev.now _)), by simp⟩

end Go.Proofs.Ytdpimdaofikmjaa.Q
