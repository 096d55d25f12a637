import Derived.Test.YtbofcocfcmlcaaaSync
/-! Package disk, on: Read. -/
namespace Go.Proofs.Ytbofcocfcmlcaaa
open Go.RowKit

theorem zc143 : Try.zeroCells143.size = 256 := by kernel_rfl
theorem cells_size (t : List UInt8) (h : t.length = 256) : (t.map bv).toArray.size = 256 := by simp [h]
theorem cells_all (t : List UInt8) : (t.map bv).toArray.all (·.oneCell') = true := by
  rw [Array.all_eq_true_iff_forall_mem]
  intro v hv
  simp only [List.mem_toArray, List.mem_map] at hv
  obtain ⟨b, _, rfl⟩ := hv
  rfl
theorem bs_row {W : World} {g : Nat} {ty : TypeId} {t : List UInt8} (h : Blk W g (t.map bv).toArray ty) (ht : t.length = 256) : Bs W (.slice (some ⟨g, 0, none⟩) 256 256) t :=
  Bs.mk ht (Nat.le_refl _) (by simp [maxLen]) (fun i u hi => h.cell (by simp [hi]))

section
variable {W : World} {p : DkP} {D : Dk}

set_option maxRecDepth 100000 in
set_option maxHeartbeats 1600000 in
theorem disk_Read_text (h : DkAt W p D) (hoff : D.off = false) (kk : Nat) (t : List UInt8) (hv : D.vers (kk : Int) = none) (hbad : D.bad (kk : Int) = false) (ht : D.texts[kk]? = some t) :
    Calls Try.prog 54 #[.pointer (some ⟨p.d, 0, none⟩), .int .i64 (kk : Int)] W fun e w' => ∃ g, e = .returned (.tuple #[.slice (some ⟨g, 0, none⟩) 256 256, .int .i64 0]) ∧ W.heap.size ≤ g ∧ Bs w' (.slice (some ⟨g, 0, none⟩) 256 256) t ∧ Below W.heap.size W w' := by
  have hlt : kk < D.texts.length := (List.getElem?_eq_some_iff.1 ht).1
  have htl := h.lens t (List.mem_of_getElem? ht)
  have hd1 : decide ((kk : Int) < 0) = false := by simp
  have hd2 : decide ((kk : Int) ≥ (D.texts.length : Int)) = false := by simp; omega
  have hra := h.rows kk t ht
  have c0 := h.cell.cell (o := 0) rfl
  have c3 := h.cell.cell (o := 3) rfl
  rw [hoff] at c3
  have hB := Blk.new W Try.zeroCells143 143
  have hB' := hB.setRow (t.map bv).toArray
  have hb : Below W.heap.size W ((W.alloc (.cells Try.zeroCells143 143)).setRow W.heap.size (t.map bv).toArray) := ((Below.refl _ W).alloc (Nat.le_refl _) _).grown (setRow_grown _ _ _) (by simp) (fun k h => by cases h; exact Nat.le_refl _)
  have hsz := cells_size t htl
  have hall := cells_all t
  obtain ⟨es, c, hm, hes, hev⟩ := (h.keep hb).vers
  have hno : mhas es (kk : Int) = false := by rw [← hes, hv]; rfl
  have hlk := run_lookup_raw (P := Try.prog) (keyLaw_int Try.underlying3) hm Try.underlying90 (kk : Int) (z := .slice none 0 0) (fun w => by kernel_rfl) false
  rw [mget_none hno] at hlk
  simp only [Bool.false_eq_true, if_false, Option.getD_none, encI] at hlk
  obtain ⟨esb, cb, hmb, hrb, hvb⟩ := (h.keep hb).bads
  have hnob : mhas esb (kk : Int) = false := by rw [← hrb, hbad]
  have hlkb := run_lookup_raw (P := Try.prog) (keyLaw_int Try.underlying3) hmb Try.underlying89 (kk : Int) (z := .bool false) (fun w => by kernel_rfl) false
  rw [mget_none hnob] at hlkb
  simp only [Bool.false_eq_true, if_false, Option.getD_none, encI] at hlkb
  have c2' := (h.keep hb).cell.cell (o := 2) rfl
  have c1' := (h.keep hb).cell.cell (o := 1) rfl
  have hbs := bs_row hB' htl
  clear hes hev hrb hvb hmb hm
  go_enter Try.func54, Try.ntmps54
  go_wp2_with fail
  refine (disk_none h).mono ?_
  rintro e W1 ⟨rfl, rfl⟩
  go_wp2_with (first | (refine wpList_load_mid rfl 143 _ rfl p.gt (256 * kk) ?_ (t.map bv) _ hra Try.underlying143 rfl (by rw [List.length_map, htl]; exact size_text) ?_) | (refine wpList_store_row rfl 143 _ _ rfl W1.heap.size (t.map bv).toArray rfl rfl 143 _ hB (by rw [hsz]; exact size_text) (by rw [hsz]; exact zc143) hall ?_))
  · show Value.pointer (some ⟨p.gt, kk * 256, none⟩) = _
    rw [Nat.mul_comm]
  · go_ret2
    exact ⟨_, rfl, Nat.le_refl _, hbs, hb⟩

set_option maxHeartbeats 800000 in
theorem disk_Read_off (h : DkAt W p D) (hoff : D.off = true) (kk : Nat) (hlt : kk < D.texts.length) :
    Calls Try.prog 54 #[.pointer (some ⟨p.d, 0, none⟩), .int .i64 (kk : Int)] W fun e w' => e = .returned (.tuple #[.slice none 0 0, .int .i64 8]) ∧ w' = W := by
  have hd1 : decide ((kk : Int) < 0) = false := by simp
  have hd2 : decide ((kk : Int) ≥ (D.texts.length : Int)) = false := by simp; omega
  have c0 := h.cell.cell (o := 0) rfl
  have c3 := h.cell.cell (o := 3) rfl
  rw [hoff] at c3
  go_enter Try.func54, Try.ntmps54
  go_wp2_with fail
  refine (disk_none h).mono ?_
  rintro e W1 ⟨rfl, rfl⟩
  go_wp2_with fail
  go_ret2
  exact ⟨rfl, rfl⟩
end

end Go.Proofs.Ytbofcocfcmlcaaa
