import Derived.Test.YtpkaepmmkojdaaaMGetF
import Derived.Test.YtpkaepmmkojdaaaMSGet
import Derived.Test.YtpkaepmmkojdaaaTailIn
import Derived.StillTailTactics
/-! gazettelaw04.look: what a store tells. -/
namespace Go.Proofs.Ytpkaepmmkojdaaa
open Go.RowKit

def tData (S : St) (j : Nat) : Value := .string ⟨(getF S (j / 6 : Nat) (j % 6 : Nat)).2.toArray⟩
def tThere (S : St) (j : Nat) : Value := .bool (decide ((getF S (j / 6 : Nat) (j % 6 : Nat)).1 = 0))
def tSealed (S : St) (i : Nat) : Value := .bool (S.get (i : Nat)).2.2
def tTrim (S : St) (i : Nat) : Value := .int .i64 (S.get (i : Nat)).2.1
def told (S : St) : Array Value := ((List.range 18).map (tData S) ++ (List.range 18).map (tThere S) ++ (List.range 3).map (tSealed S) ++ (List.range 3).map (tTrim S)).toArray

structure Filled (S : St) (n m : Nat) (c : Array Value) : Prop where
  size : c.size = 42
  data : ∀ j, j < n → c[j]? = some (tData S j) ∧ c[18 + j]? = some (tThere S j)
  row : ∀ j, j < m → c[36 + j]? = some (tSealed S j) ∧ c[39 + j]? = some (tTrim S j)

theorem told_size (S : St) : (told S).size = 42 := by simp [told]
theorem told_get (S : St) (j : Nat) : (told S)[j]? = if j < 18 then some (tData S j) else if j < 36 then some (tThere S (j - 18)) else if j < 39 then some (tSealed S (j - 36)) else if j < 42 then some (tTrim S (j - 39)) else none := by
  unfold told
  rw [List.getElem?_toArray]
  simp only [List.getElem?_append, List.length_append, List.length_map, List.length_range, List.getElem?_map]
  by_cases h1 : j < 18
  · rw [if_pos (by omega), if_pos (by omega), if_pos h1, if_pos h1, List.getElem?_range h1]; rfl
  rw [if_neg h1]
  by_cases h2 : j < 36
  · rw [if_pos (by omega), if_pos (by omega), if_neg h1, if_pos h2, List.getElem?_range (by omega)]; rfl
  rw [if_neg h2]
  by_cases h3 : j < 39
  · rw [if_pos (by omega), if_neg (by omega), if_neg h2, if_pos h3, List.getElem?_range (by omega)]; rfl
  rw [if_neg (by omega), if_neg h1, if_neg h2, if_neg h3]
  by_cases h4 : j < 42
  · rw [if_pos h4, List.getElem?_range (by omega)]; rfl
  · rw [if_neg h4, List.getElem?_eq_none (by simp; omega)]; rfl
theorem Filled.done {S : St} {c : Array Value} (h : Filled S 18 3 c) : c = told S := by
  apply Array.ext_getElem?
  intro j
  rw [told_get]
  by_cases h1 : j < 18
  · rw [if_pos h1]; exact (h.data j h1).1
  rw [if_neg h1]
  by_cases h2 : j < 36
  · rw [if_pos h2]; have := (h.data (j - 18) (by omega)).2; rwa [show 18 + (j - 18) = j from by omega] at this
  rw [if_neg h2]
  by_cases h3 : j < 39
  · rw [if_pos h3]; have := (h.row (j - 36) (by omega)).1; rwa [show 36 + (j - 36) = j from by omega] at this
  rw [if_neg h3]
  by_cases h4 : j < 42
  · rw [if_pos h4]; have := (h.row (j - 39) (by omega)).2; rwa [show 39 + (j - 39) = j from by omega] at this
  · rw [if_neg h4, Array.getElem?_eq_none (by rw [h.size]; omega)]
theorem Filled.there {S : St} {n m : Nat} {c : Array Value} (h : Filled S n m c) (hn : n < 18) : Filled S n m (c.setIfInBounds (18 + n) (tThere S n)) where
  size := by simp [h.size]
  data j hj := by
    rw [Array.getElem?_setIfInBounds_ne (by omega), Array.getElem?_setIfInBounds_ne (by omega)]
    exact h.data j hj
  row j hj := by
    rw [Array.getElem?_setIfInBounds_ne (by omega), Array.getElem?_setIfInBounds_ne (by omega)]
    exact h.row j hj
theorem Filled.next {S : St} {n m : Nat} {c : Array Value} (h : Filled S n m c) (hn : n < 18) : Filled S (n + 1) m ((c.setIfInBounds (18 + n) (tThere S n)).setIfInBounds n (tData S n)) where
  size := by simp [h.size]
  data j hj := by
    by_cases e : j = n
    · subst e
      have hs := h.size
      rw [Array.getElem?_setIfInBounds_self_of_lt (by simp; omega), Array.getElem?_setIfInBounds_ne (by omega), Array.getElem?_setIfInBounds_self_of_lt (by omega)]
      exact ⟨rfl, rfl⟩
    · rw [Array.getElem?_setIfInBounds_ne (by omega), Array.getElem?_setIfInBounds_ne (by omega), Array.getElem?_setIfInBounds_ne (by omega), Array.getElem?_setIfInBounds_ne (by omega)]
      exact h.data j (by omega)
  row j hj := by
    rw [Array.getElem?_setIfInBounds_ne (by omega), Array.getElem?_setIfInBounds_ne (by omega), Array.getElem?_setIfInBounds_ne (by omega), Array.getElem?_setIfInBounds_ne (by omega)]
    exact h.row j hj
theorem Filled.rows {S : St} {n m : Nat} {c : Array Value} (h : Filled S n m c) (hm : m < 3) (hn : n ≤ 18) : Filled S n (m + 1) ((c.setIfInBounds (36 + m) (tSealed S m)).setIfInBounds (39 + m) (tTrim S m)) where
  size := by simp [h.size]
  data j hj := by
    rw [Array.getElem?_setIfInBounds_ne (by omega), Array.getElem?_setIfInBounds_ne (by omega), Array.getElem?_setIfInBounds_ne (by omega), Array.getElem?_setIfInBounds_ne (by omega)]
    exact h.data j hj
  row j hj := by
    have hs := h.size
    by_cases e : j = m
    · subst e
      rw [Array.getElem?_setIfInBounds_self_of_lt (by simp; omega), Array.getElem?_setIfInBounds_ne (by omega), Array.getElem?_setIfInBounds_self_of_lt (by omega)]
      exact ⟨rfl, rfl⟩
    · rw [Array.getElem?_setIfInBounds_ne (by omega), Array.getElem?_setIfInBounds_ne (by omega), Array.getElem?_setIfInBounds_ne (by omega), Array.getElem?_setIfInBounds_ne (by omega)]
      exact h.row j (by omega)

theorem size_told : (Try.prog.info? 39).map (·.size) = some 42 := by kernel_rfl

theorem told_all (S : St) : (told S).all (·.oneCell') = true := by
  rw [Array.all_eq_true]
  intro i hi
  have h := told_get S i
  rw [Array.getElem?_eq_getElem hi] at h
  rw [told_size] at hi
  generalize (told S)[i] = v at h
  split at h
  · injection h with h; subst h; rfl
  split at h
  · injection h with h; subst h; rfl
  split at h
  · injection h with h; subst h; rfl
  · first | (rw [if_pos hi] at h; injection h with h; subst h; rfl) | (injection h with h; subst h; rfl)
section
variable {W : World} {q : StP} {S : St} {D : Dk}
set_option maxRecDepth 100000 in
set_option maxHeartbeats 1600000 in
theorem law_look (h : StAt W q S D) : Calls Try.prog 12 #[.pointer (some ⟨q.s, 0, none⟩)] W fun e w' => e = .returned (.tuple #[.agg (told S), .bool true]) ∧ Below W.heap.size W w' := by
  go_enter Try.func12, Try.ntmps12
  go_wp2_with fail
  generalize hz : (#[.string ⟨#[]⟩, .string ⟨#[]⟩, .string ⟨#[]⟩, .string ⟨#[]⟩, .string ⟨#[]⟩, .string ⟨#[]⟩, .string ⟨#[]⟩, .string ⟨#[]⟩, .string ⟨#[]⟩, .string ⟨#[]⟩, .string ⟨#[]⟩, .string ⟨#[]⟩, .string ⟨#[]⟩, .string ⟨#[]⟩, .string ⟨#[]⟩, .string ⟨#[]⟩, .string ⟨#[]⟩, .string ⟨#[]⟩, .bool false, .bool false, .bool false, .bool false, .bool false, .bool false, .bool false, .bool false, .bool false, .bool false, .bool false, .bool false, .bool false, .bool false, .bool false, .bool false, .bool false, .bool false, .bool false, .bool false, .bool false, .int .i64 0, .int .i64 0, .int .i64 0] : Array Value) = z
  have hzs : z.size = 42 := by rw [← hz]; rfl
  clear hz
  obtain ⟨W1, hW1⟩ : ∃ W1, (W.alloc (.cells z 39)).alloc (.cells z 39) = W1 := ⟨_, rfl⟩
  rw [hW1]
  have b1 : Below W.heap.size W W1 := by rw [← hW1]; exact ((Below.refl _ W).alloc (Nat.le_refl _) _).alloc (by simp) _
  have r0 : Blk W1 W.heap.size z 39 := by rw [← hW1]; exact (Blk.new W _ _).alloc _
  have r1 : Blk W1 (W.heap.size + 1) z 39 := by rw [← hW1]; exact Blk.new' _ _ (by simp) _ _
  have h1 := h.keep b1
  have hF0 : Filled S (6 * 0) 0 z := ⟨hzs, fun j hj => by omega, fun j hj => by omega⟩
  clear hW1
  obtain ⟨T, hT⟩ : ∃ T, T = W.heap.size + 1 := ⟨_, rfl⟩
  obtain ⟨R, hR⟩ : ∃ R, R = W.heap.size := ⟨_, rfl⟩
  rw [← hT] at r1 ⊢
  rw [← hR] at r0 ⊢
  have hRT : R ≠ T := by omega
  have hB : W.heap.size ≤ R ∧ W.heap.size ≤ T := by omega
  have hBR := hid hB
  have hTq : ¬ q.all T := fun hc => by have := h.size hc; omega
  clear hT hR hB
  go_loopw [5] (fun i wr => ∃ (n : Nat) (c : Array Value), n ≤ 3 ∧ i = .int .i64 (n : Int) ∧ Filled S (6 * n) n c ∧ Blk wr T c 39 ∧ Blk wr R z 39 ∧ StAt wr q S D ∧ Below W.heap.size W wr) (fun i _ => 3 - (intOf i).toNat)
  case atStart => exact ⟨0, z, by omega, rfl, hF0, r1, r0, h1, b1⟩
  case round =>
    obtain ⟨n, c, hn, rfl, hF, rT, rR, hS, bW⟩ := hrel
    by_cases hlt : n < 3
    · have hd : decide ((n : Int) < 3) = true := decide_eq_true (by omega)
      go_wp2_with fail
      refine (store_Sealed hS (n : Int)).mono ?_
      rintro e W2 ⟨rfl, b2⟩
      have rT2 := rT.keep b2
      have rR2 := rR.keep b2
      have hS2 := hS.keep b2
      have bW2 := bW.trans (b2.mono bW.size)
      clear rT rR hS bW b2
      have hcs := hF.size
      obtain ⟨u, hu, huc⟩ := rT2.cellAt (o := 36 + n) (by omega)
      have hfr := rT2.free (36 + n)
      clear hu
      go_wp2_with fail
      obtain ⟨W3, hW3⟩ : ∃ W3, W2.setCell ⟨T, 36 + n, none⟩ (.bool (S.get (n : Int)).2.2) = W3 := ⟨_, rfl⟩
      rw [hW3]
      have x3 : Ext (fun b => b = T) W2 W3 := by rw [← hW3]; exact (Ext.refl (fun b => b = T) _).setCell (.inl rfl) _
      have rT3 := rT2.set (o := 36 + n) (.bool (S.get (n : Int)).2.2)
      rw [hW3] at rT3
      have rR3 := rR2.ext x3 hRT
      have hS3 := hS2.ext x3 (fun b hb => hb ▸ hTq)
      have bW3 : Below W.heap.size W W3 := by rw [← hW3]; exact bW2.setCell hBR.out.2 _
      clear hW3 x3 rT2 rR2 hS2 bW2 huc hfr
      refine (store_Trimmed hS3 (n : Int)).mono ?_
      rintro e W4 ⟨rfl, b4⟩
      have rT4 := rT3.keep b4
      have rR4 := rR3.keep b4
      have hS4 := hS3.keep b4
      have bW4 := bW3.trans (b4.mono bW3.size)
      clear rT3 rR3 hS3 bW3 b4
      obtain ⟨u, hu, huc⟩ := rT4.cellAt (o := 39 + n) (by simp; omega)
      have hfr := rT4.free (39 + n)
      clear hu
      go_wp2_with fail
      obtain ⟨W5, hW5⟩ : ∃ W5, W4.setCell ⟨T, 39 + n, none⟩ (.int .i64 (S.get (n : Int)).2.1) = W5 := ⟨_, rfl⟩
      rw [hW5]
      have x5 : Ext (fun b => b = T) W4 W5 := by rw [← hW5]; exact (Ext.refl (fun b => b = T) _).setCell (.inl rfl) _
      have rT5 := rT4.set (o := 39 + n) (.int .i64 (S.get (n : Int)).2.1)
      rw [hW5] at rT5
      have rR5 := rR4.ext x5 hRT
      have hS5 := hS4.ext x5 (fun b hb => hb ▸ hTq)
      have bW5 : Below W.heap.size W W5 := by rw [← hW5]; exact bW4.setCell hBR.out.2 _
      have hF5 := hF.rows hlt (by omega)
      clear hW5 x5 rT4 rR4 hS4 bW4 huc hfr hcs hF
      replace rT5 : Blk W5 T ((c.setIfInBounds (36 + n) (tSealed S n)).setIfInBounds (39 + n) (tTrim S n)) _ := rT5
      generalize (c.setIfInBounds (36 + n) (tSealed S n)).setIfInBounds (39 + n) (tTrim S n) = c5 at *
      go_loopw [6] (fun k wr => ∃ (m : Nat) (c : Array Value), m ≤ 6 ∧ k = .int .i64 (m : Int) ∧ Filled S (6 * n + m) (n + 1) c ∧ Blk wr T c 39 ∧ Blk wr R z 39 ∧ StAt wr q S D ∧ Below W.heap.size W wr) (fun i _ => 6 - (intOf i).toNat)
      case atStart => exact ⟨0, c5, by omega, rfl, hF5, rT5, rR5, hS5, bW5⟩
      case round =>
        obtain ⟨m, c6, hm, rfl, hF6, rT6, rR6, hS6, bW6⟩ := hrel
        clear hF5 rT5 rR5 hS5 bW5
        by_cases hlm : m < 6
        · have hd2 : decide ((m : Int) < 6) = true := decide_eq_true (by omega)
          go_wp2_with fail
          refine (store_Get hS6 (n : Int) (m : Int) (by omega) (by omega) (by omega) (by omega)).mono ?_
          rintro e W7 ⟨v7, rfl, o7, b7⟩
          have rT7 := rT6.keep b7
          have rR7 := rR6.keep b7
          have hS7 := hS6.keep b7
          have bW7 := bW6.trans (b7.mono bW6.size)
          obtain ⟨a7, k7, rfl⟩ := o7.form
          have s7 := o7.bs
          have hv7 : ∀ k, (Value.slice a7 (getF S (n : Int) (m : Int)).2.length k7).ownBlock = some k → wr.heap.size ≤ k := fun k hk => (o7.blk k hk).1
          have hTl := hid rT6.lt
          clear rT6 rR6 hS6 bW6 b7 o7
          go_wp2_with fail
          have hn3 : (n : Int) < 3 := by omega
          have hm6 : (m : Int) < 6 := by omega
          generalize hcd : (getF S (n : Int) (m : Int)).1 = cd at *
          have Hcd := hid hcd
          clear hcd
          refine wp_region_still_tail 8 (by kernel_rfl) (by kernel_rfl) ?_
          simp only [List.take_succ_cons, List.take_zero, List.drop_succ_cons, List.drop_zero]
          repeat still_step
          still_call (law_num _ _)
          repeat still_step
          refine wpStill_nil ?_
          change wpList _ _ _ _ _ W7.drew
          have bd : Below W7.heap.size W7 W7.drew := (Below.refl _ W7).drew
          have rT8 := rT7.keep bd
          have rR8 := rR7.keep bd
          have hS8 := hS7.keep bd
          have s8 := s7.keep bd
          have bW8 : Below W.heap.size W W7.drew := bW7.drew
          clear rT7 rR7 hS7 s7 bW7 bd
          generalize W7.drew = W8 at *
          have hcs := hF6.size
          obtain ⟨u, hu, huc⟩ := rT8.cellAt (o := 18 + n * 6 + m) (by omega)
          have hfr := rT8.free (18 + n * 6 + m)
          clear hu
          go_wp2_with fail
          obtain ⟨W9, hW9⟩ : ∃ W9, W8.setCell ⟨T, 18 + n * 6 + m, none⟩ (.bool (cd == 0)) = W9 := ⟨_, rfl⟩
          rw [hW9]
          have x9 : Ext (fun b => b = T) W8 W9 := by rw [← hW9]; exact (Ext.refl (fun b => b = T) _).setCell (.inl rfl) _
          have rT9 := rT8.set (o := 18 + n * 6 + m) (.bool (cd == 0))
          rw [hW9] at rT9
          have rR9 := rR8.ext x9 hRT
          have hS9 := hS8.ext x9 (fun b hb => hb ▸ hTq)
          have s9 := s8.ext x9 (fun k hk _ e => by have h1 := hv7 k hk; have h2 := hTl.out; have h3 : k = T := e; omega)
          have bW9 : Below W.heap.size W W9 := by rw [← hW9]; exact bW8.setCell hBR.out.2 _
          clear hW9 x9 rT8 rR8 hS8 s8 bW8 huc hfr
          have bd : Below W9.heap.size W9 W9.drew := (Below.refl _ W9).drew
          have rT10 := rT9.keep bd
          have rR10 := rR9.keep bd
          have hS10 := hS9.keep bd
          have s10 := s9.keep bd
          have bW10 : Below W.heap.size W W9.drew := bW9.drew
          have hcv := run_bytes_string (P := Try.prog) Try.underlying40 Try.underlying5 Try.underlying9 s10
          clear rT9 rR9 hS9 s9 bW9 bd
          refine wp_region_still_tail 7 (by kernel_rfl) (by kernel_rfl) ?_
          simp only [List.take_succ_cons, List.take_zero, List.drop_succ_cons, List.drop_zero]
          repeat still_step
          refine wpStill_nil ?_
          change wpList _ _ _ _ _ W9.drew
          generalize W9.drew = W10 at *
          obtain ⟨u, hu, huc⟩ := rT10.cellAt (o := n * 6 + m) (by simp; omega)
          have hfr := rT10.free (n * 6 + m)
          clear hu hcv s10
          go_wp2_with fail
          obtain ⟨W11, hW11⟩ : ∃ W11, W10.setCell ⟨T, n * 6 + m, none⟩ (.string ⟨(getF S (n : Int) (m : Int)).2.toArray⟩) = W11 := ⟨_, rfl⟩
          rw [hW11]
          have x11 : Ext (fun b => b = T) W10 W11 := by rw [← hW11]; exact (Ext.refl (fun b => b = T) _).setCell (.inl rfl) _
          have rT11 := rT10.set (o := n * 6 + m) (.string ⟨(getF S (n : Int) (m : Int)).2.toArray⟩)
          rw [hW11] at rT11
          have rR11 := rR10.ext x11 hRT
          have hS11 := hS10.ext x11 (fun b hb => hb ▸ hTq)
          have bW11 : Below W.heap.size W W11 := by rw [← hW11]; exact bW10.setCell hBR.out.2 _
          have hF11 := hF6.next (by omega : 6 * n + m < 18)
          have hix : 6 * n + m = n * 6 + m := by omega
          have hD : tData S (6 * n + m) = .string ⟨(getF S (n : Int) (m : Int)).2.toArray⟩ := by
            unfold tData
            rw [show (6 * n + m) / 6 = n from by omega, show (6 * n + m) % 6 = m from by omega]
          have hT : tThere S (6 * n + m) = .bool (cd == 0) := by
            unfold tThere
            rw [show (6 * n + m) / 6 = n from by omega, show (6 * n + m) % 6 = m from by omega, Hcd.out]
            rfl
          rw [hD, hT, hix, ← Nat.add_assoc] at hF11
          clear hW11 x11 rT10 rR10 hS10 bW10 huc hfr hcs hF6 hD hT hix
          have hro := (hF11.row n (by omega)).2
          have hc39 := rT11.cell hro
          unfold tTrim at hc39
          have hcode := getF_code S (n : Int) (m : Int)
          rw [Hcd.out] at hcode
          have HH := hid (And.intro hF11 (And.intro rT11 (And.intro rR11 (And.intro hS11 bW11))))
          clear hF11 rT11 rR11 hS11 bW11 hro Hcd
          rcases hcode with ⟨rfl, htr⟩ | rfl | rfl
          · go_wp2_with fail
            refine (law_num _ _).mono ?_
            rintro e w' ⟨rfl, rfl⟩
            go_wp2_with fail
            refine (law_num _ _).mono ?_
            rintro e w' ⟨rfl, rfl⟩
            go_wp2_with fail
            refine (law_num _ _).mono ?_
            rintro e w' ⟨rfl, rfl⟩
            go_wp2_with fail
            refine (law_num _ _).mono ?_
            rintro e w' ⟨rfl, rfl⟩
            go_wp2_with fail
            go_roundw
            case rel => exact ⟨m + 1, _, by omega, by go_num, (by rw [show 6 * n + (m + 1) = n * 6 + m + 1 from by omega]; exact HH.out.1), HH.out.2.1, HH.out.2.2.1, HH.out.2.2.2.1, HH.out.2.2.2.2⟩
            case measure => simp [intOf]; omega
          · go_wp2_with fail
            refine (law_num _ _).mono ?_
            rintro e w' ⟨rfl, rfl⟩
            go_wp2_with fail
            refine (law_num _ _).mono ?_
            rintro e w' ⟨rfl, rfl⟩
            go_wp2_with fail
            refine (law_num _ _).mono ?_
            rintro e w' ⟨rfl, rfl⟩
            go_wp2_with fail
            go_roundw
            case rel => exact ⟨m + 1, _, by omega, by go_num, (by rw [show 6 * n + (m + 1) = n * 6 + m + 1 from by omega]; exact HH.out.1), HH.out.2.1, HH.out.2.2.1, HH.out.2.2.2.1, HH.out.2.2.2.2⟩
            case measure => simp [intOf]; omega
          · go_wp2_with fail
            refine (law_num _ _).mono ?_
            rintro e w' ⟨rfl, rfl⟩
            go_wp2_with fail
            refine (law_num _ _).mono ?_
            rintro e w' ⟨rfl, rfl⟩
            go_wp2_with fail
            go_roundw
            case rel => exact ⟨m + 1, _, by omega, by go_num, (by rw [show 6 * n + (m + 1) = n * 6 + m + 1 from by omega]; exact HH.out.1), HH.out.2.1, HH.out.2.2.1, HH.out.2.2.2.1, HH.out.2.2.2.2⟩
            case measure => simp [intOf]; omega
        · have hd2 : decide ((m : Int) < 6) = false := decide_eq_false (by omega)
          obtain rfl : m = 6 := by omega
          go_wp2_with fail
          go_roundw
          case rel => exact ⟨n + 1, c6, by omega, by go_num, (by rw [show 6 * (n + 1) = 6 * n + 6 from by omega]; exact hF6), rT6, rR6, hS6, bW6⟩
          case measure => simp [intOf]; omega
    · obtain rfl : n = 3 := by omega
      have hd : decide (((3 : Nat) : Int) < 3) = false := by decide
      obtain rfl := Filled.done hF
      clear hF
      go_wp2_with (first | (refine wpList_load_row rfl 39 _ rfl T rfl 39 (told S) (0, 0) _ rT rfl rfl (by rw [told_size]; exact size_told) ?_) | (refine wpList_store_row rfl 39 _ _ rfl R (told S) rfl rfl 39 _ rR (by rw [told_size]; exact size_told) (by rw [told_size]; exact hzs) (told_all S) ?_))
      have hld := run_loadVar_row (P := Try.prog) _ R 39 39 _ (0, 0) _ (rR.setRow (told S)) Try.underlying39 rfl (by rw [told_size]; exact size_told)
      refine bodyPost_ret (v := .tuple #[.agg (told S), .bool true]) ?_ rfl ?_
      · simp [results, Try.results12, hld, asAddr]
      · exact ⟨rfl, bW.grown (setRow_grown _ _ _) bW.size (fun k h => by cases h; exact hBR.out.1)⟩
end
end Go.Proofs.Ytpkaepmmkojdaaa
