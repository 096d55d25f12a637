import Derived.Test.YtpkaepmmkojdaaaPartG
import Derived.Test.YtpkaepmmkojdaaaMParts
import Derived.Test.YtpkaepmmkojdaaaBlocks
/-! Package store: part, in one word. -/
namespace Go.Proofs.Ytpkaepmmkojdaaa
open Go.RowKit
/-- What a block's text is to a store at the entry `num`: its place among how many, its bytes. -/
def partF (num : Nat) (t : List UInt8) : Option (Nat × Nat × List UInt8) :=
  if t[0]? = some 165 ∧ numOf ((t.drop 1).take 6) = num ∧ numOf ((t.drop 252).take 4) = crcOf (t.take 252) ∧ (t.getD 11 0).toNat ≤ 240 ∧ ¬ (numOf ((t.drop 7).take 2) + 1 < numOf ((t.drop 9).take 2) ∧ (t.getD 11 0).toNat ≠ 240) then
    some (numOf ((t.drop 7).take 2), numOf ((t.drop 9).take 2), (t.drop 12).take (t.getD 11 0).toNat)
  else none
/-- The same of a disk's block: none if a crash left it bad. -/
def Dk.part (D : Dk) (num kk : Nat) : Option (Nat × Nat × List UInt8) := if D.bad (kk : Int) = true then none else D.texts[kk]?.bind (partF num)
def PartPost (W : World) (r : Option (Nat × Nat × List UInt8)) (e : Ending) (w' : World) : Prop :=
  match r with
  | none => e = .returned (.tuple #[.int .i64 0, .int .i64 0, .slice none 0 0, .bool false]) ∧ Below W.heap.size W w'
  | some (k, n, x) => ∃ v, e = .returned (.tuple #[.int .i64 (k : Int), .int .i64 (n : Int), v, .bool true]) ∧ Bs w' v x ∧ (∀ g, v.ownBlock = some g → W.heap.size ≤ g) ∧ Below W.heap.size W w'
section
variable {W : World} {q : StP} {S : St} {D : Dk}
theorem store_part (h : StAt W q S D) (hoff : D.off = false) (kk : Nat) (hlt : kk < D.texts.length) (hv : D.vers (kk : Int) = none) :
    Calls Try.prog 33 #[.pointer (some ⟨q.s, 0, none⟩), .int .i64 (kk : Int)] W (PartPost W (D.part S.num kk)) := by
  obtain ⟨t, ht⟩ : ∃ t, D.texts[kk]? = some t := ⟨_, List.getElem?_eq_getElem hlt⟩
  have htl := h.disk.lens t (List.mem_of_getElem? ht)
  unfold Dk.part
  cases hbad : D.bad (kk : Int) with
  | true => exact store_part_bad h hoff kk hlt hv hbad
  | false =>
    rw [ht]
    show Calls _ _ _ _ (PartPost W (partF S.num t))
    obtain ⟨u0, h0⟩ : ∃ u, t[0]? = some u := ⟨t[0]'(by omega), List.getElem?_eq_getElem (by omega)⟩
    obtain ⟨u, hu⟩ : ∃ u, t[11]? = some u := ⟨t[11]'(by omega), List.getElem?_eq_getElem (by omega)⟩
    have hg : t.getD 11 0 = u := by rw [List.getD_eq_getElem?_getD, hu]; rfl
    unfold partF
    rw [hg]
    by_cases c0 : u0 = 165
    · subst c0
      by_cases c1 : numOf ((t.drop 1).take 6) = S.num
      · by_cases c2 : numOf ((t.drop 252).take 4) = crcOf (t.take 252)
        · by_cases c3 : u.toNat ≤ 240 ∧ ¬ (numOf ((t.drop 7).take 2) + 1 < numOf ((t.drop 9).take 2) ∧ u.toNat ≠ 240)
          · rw [if_pos ⟨h0, c1, c2, c3⟩]
            refine (store_part_ok h hoff kk t hv hbad ht h0 c1 c2 u hu _ _ _ rfl rfl rfl c3).mono ?_
            rintro e w' ⟨g, rfl, h1, h2, h3⟩
            exact ⟨_, rfl, h2, fun b hb => by cases hb; exact h1, h3⟩
          · rw [if_neg (fun hh => c3 hh.2.2.2)]
            exact store_part_size h hoff kk t hv hbad ht h0 c1 c2 u hu (by omega)
        · rw [if_neg (fun hh => c2 hh.2.2.1)]
          exact store_part_crc h hoff kk t hv hbad ht h0 c1 c2
      · rw [if_neg (fun hh => c1 hh.2.1)]
        exact store_part_num h hoff kk t hv hbad ht h0 c1
    · rw [if_neg (fun hh => c0 (by have := h0.symm.trans hh.1; exact Option.some.inj this))]
      exact store_part_no h hoff kk t hv hbad ht u0 h0 c0
end
end Go.Proofs.Ytpkaepmmkojdaaa

/-! Package store: what next finds, in plain words. -/
namespace Go.Proofs.Ytpkaepmmkojdaaa
open Go.RowKit
/-- The bytes of the first i of n blocks from fin on, if they are an entry's. -/
def Dk.gather (D : Dk) (num fin n : Nat) : Nat → Option (List UInt8)
  | 0 => some []
  | i + 1 => match D.gather num fin n i, D.part num (fin + i) with
    | some a, some (k, m, x) => if k = i ∧ m = n then some (a ++ x) else none
    | _, _ => none
/-- The entry at fin: its kind, loglet, place, bytes; how many blocks it takes. -/
def Dk.next (D : Dk) (num fin : Nat) : Option ((Nat × Nat × Nat × List UInt8) × Nat) :=
  match D.part num fin with
  | none => none
  | some (_, n, _) =>
    if n < 1 ∨ D.texts.length - fin < n then none
    else match D.gather num fin n n with
      | none => none
      | some a => if 13 ≤ a.length ∧ 1 ≤ (a.getD 0 0).toNat ∧ (a.getD 0 0).toNat ≤ 3 then some (((a.getD 0 0).toNat, numOf ((a.drop 1).take 6), numOf ((a.drop 7).take 6), a.drop 13), n) else none
theorem partF_len {num : Nat} {t : List UInt8} {k n : Nat} {x : List UInt8} (h : partF num t = some (k, n, x)) : x.length ≤ 240 ∧ k < 65536 ∧ n < 65536 := by
  unfold partF at h
  split at h
  · rename_i hh
    injection h with h
    injection h with h1 h
    injection h with h2 h3
    subst h1 h2 h3
    have b2 : ∀ l : List UInt8, numOf (l.take 2) < 65536 := fun l => by
      have h9 := numOf_lt (l.take 2)
      have h8 : 2 ^ (8 * (l.take 2).length) ≤ 2 ^ (8 * 2) := Nat.pow_le_pow_right (by omega) (by have := List.length_take_le 2 l; omega)
      omega
    refine ⟨?_, b2 _, b2 _⟩
    have := List.length_take_le (t.getD 11 0).toNat (t.drop 12)
    omega
  · cases h
theorem Dk.part_len {D : Dk} {num kk : Nat} {k n : Nat} {x : List UInt8} (h : D.part num kk = some (k, n, x)) : x.length ≤ 240 ∧ k < 65536 ∧ n < 65536 := by
  unfold Dk.part at h
  split at h
  · cases h
  · cases ht : D.texts[kk]? with
    | none => rw [ht] at h; cases h
    | some t => rw [ht] at h; exact partF_len h
theorem Dk.gather_len {D : Dk} {num fin n : Nat} : ∀ {i : Nat} {a : List UInt8}, D.gather num fin n i = some a → a.length ≤ 240 * i
  | 0, a, h => by cases h; simp
  | i + 1, a, h => by
    unfold Dk.gather at h
    split at h
    · rename_i a0 k m x h1 h2
      split at h
      · injection h with h
        subst h
        have := Dk.gather_len h1
        have := (Dk.part_len h2).1
        simp
        omega
      · cases h
    · cases h
end Go.Proofs.Ytpkaepmmkojdaaa

/-! Numbers there and back, plain. -/
namespace Go.Proofs.Ytpkaepmmkojdaaa
open Go.RowKit

theorem lowB_succ (n : Int) (k : Nat) : lowB n (k + 1) = lowB n k ++ [byteOf n k] := by
  unfold lowB
  rw [List.range_succ, List.map_append]
  rfl

theorem byteOf_nat (n k : Nat) : (byteOf (n : Int) k).toNat = n / 2 ^ (8 * k) % 256 := by
  have := byteOf_val (n : Int) k
  have e : (n : Int) / 2 ^ (8 * k) % 256 = ((n / 2 ^ (8 * k) % 256 : Nat) : Int) := by
    rw [Int.natCast_emod, Int.natCast_ediv, Int.natCast_pow]
    rfl
  rw [e] at this
  exact Int.ofNat.inj this

theorem numOf_low (n k : Nat) : numOf (lowB (n : Int) k) = n % 2 ^ (8 * k) := by
  induction k with
  | zero => simp [lowB, numOf, Nat.mod_one]
  | succ k ih =>
    rw [lowB_succ, numOf_snoc, ih, lowB_length, byteOf_nat, show 8 * (k + 1) = 8 * k + 8 from by omega, Nat.pow_add, show (2 : Nat) ^ 8 = 256 from rfl, Nat.mod_mul, Nat.mul_comm (2 ^ (8 * k))]

theorem numOf_low' {n : Nat} {k : Nat} (h : n < 2 ^ (8 * k)) : numOf (lowB (n : Int) k) = n := by rw [numOf_low, Nat.mod_eq_of_lt h]

end Go.Proofs.Ytpkaepmmkojdaaa

/-! Package store: part reads back what blocks wrote. -/
namespace Go.Proofs.Ytpkaepmmkojdaaa
open Go.RowKit
theorem partF_block (p : List UInt8) (num n k : Nat) (hp : p.length ≤ 240) (hnum : num < 2 ^ 48) (hn : n < 65536) (hk : k < 65536) (hfull : k + 1 < n → p.length = 240) : partF num (blockB p num n k) = some (k, n, p) := by
  have hl := blockF_length p num n k hp
  have e0 : (blockB p num n k)[0]? = some 165 := rfl
  have e1 : ((blockB p num n k).drop 1).take 6 = lowB (num : Int) 6 := rfl
  have e2 : ((blockB p num n k).drop 7).take 2 = lowB (k : Int) 2 := rfl
  have e3 : ((blockB p num n k).drop 9).take 2 = lowB (n : Int) 2 := rfl
  have e4 : (blockB p num n k).getD 11 0 = byteOf (p.length : Int) 0 := rfl
  have e5 : (blockB p num n k).drop 12 = (p ++ List.replicate (240 - p.length) 0) ++ lowB (crcOf (blockF p num n k) : Int) 4 := rfl
  have e6 : (blockB p num n k).take 252 = blockF p num n k := by
    unfold blockB
    rw [List.take_append_of_le_length (by omega), List.take_of_length_le (by omega)]
  have e7 : ((blockB p num n k).drop 252).take 4 = lowB (crcOf (blockF p num n k) : Int) 4 := by
    unfold blockB
    rw [List.drop_append_of_le_length (by omega), List.drop_eq_nil_of_le (by omega), List.nil_append, List.take_of_length_le (by simp [lowB_length])]
  have hz : (byteOf (p.length : Int) 0).toNat = p.length := by
    have := byteOf_val (p.length : Int) 0
    simp only [Nat.mul_zero, Int.pow_zero, Int.ediv_one] at this
    omega
  have hc := crcOf_lt (blockF p num n k)
  unfold partF
  rw [e1, e2, e3, e4, e5, e6, e7, hz, numOf_low' (by omega), numOf_low' (by omega), numOf_low' (by omega), numOf_low' (by omega), if_pos ⟨e0, rfl, rfl, hp, fun hh => hh.2 (hfull hh.1)⟩]
  rw [List.append_assoc, List.take_append_of_le_length (Nat.le_refl _), List.take_of_length_le (Nat.le_refl _)]
end Go.Proofs.Ytpkaepmmkojdaaa
