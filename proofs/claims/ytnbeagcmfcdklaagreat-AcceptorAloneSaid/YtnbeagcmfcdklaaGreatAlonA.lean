import Derived.Test.YtnbeagcmfcdklaaGreatLAlP
import Derived.Test.YtnbeagcmfcdklaaGreatMBsw
import Derived.Test.YtnbeagcmfcdklaaGreatSlices
/-! gazettelaw08.small; two acceptors beside each other. -/
namespace Go.Proofs.YtnbeagcmfcdklaaGreat
open Go.RowKit

theorem small_num (z m : Int) (h : 0 < m) (hm : m ≤ 1000) : ∃ j : Int, 0 ≤ j ∧ j < m ∧ wrap64 (z.tmod m + m) = z.tmod m + m ∧ (z.tmod m + m).tmod m = j ∧ wrap64 (1 + j) = 1 + j := by
  have h1 := Int.lt_tmod_of_pos z h
  have h2 := Int.tmod_lt_of_pos z h
  have h3 : 0 ≤ z.tmod m + m := by omega
  have h4 := Int.tmod_nonneg m h3
  have h5 := Int.tmod_lt_of_pos (z.tmod m + m) h
  refine ⟨_, h4, h5, ?_, rfl, ?_⟩
  · generalize z.tmod m = t at *
    unfold wrap64
    omega
  · generalize (z.tmod m + m).tmod m = t at *
    unfold wrap64
    omega
theorem small_take {W w' : World} {a : Option Addr} {c : Nat} {m : List UInt8} (h : BsW W (.slice a m.length c) m) (hl : 100 < m.length) (hb : Below W.heap.size W w') : BsW w' (.slice a 100 c) (m.take 100) := by
  rcases h with h | ⟨h, _⟩
  · have h2 := (h.keep hb).slice (lo := 0) (hi := 100) (by omega) (by omega)
    have e : sla a c 0 = a := by
      unfold sla
      split
      · rfl
      · cases a <;> simp [Addr.add]
    rw [e] at h2
    exact .inl (by simpa using h2)
  · rw [h] at hl; simp at hl
theorem size_rq8' : (Tryz.prog.info? 24).map (·.size) = some 5 := by kernel_rfl

set_option maxRecDepth 100000 in
set_option maxHeartbeats 12800000 in
theorem law8_small (k key ver bal : Int) (v : Value) (m : List UInt8) (W : World) (hv : BsW W v m) (hm : m.length ≤ 9223372036854775807) :
    Calls Tryz.prog 25 #[.agg #[.int .i64 k, .int .i64 key, .int .i64 ver, .int .i64 bal, v]] W fun e w' => ∃ (kn yn rn bn : Int) (v' : Value) (m' : List UInt8), e = .returned (.agg #[.int .i64 kn, .int .i64 yn, .int .i64 rn, .int .i64 bn, v']) ∧ (∀ W2, BsW W2 v m → BsW W2 v' m') ∧ kn ≠ 4 ∧ askOk kn yn rn bn m'.length = true ∧ bn ≤ 20 ∧ m'.length ≤ 100 ∧ (yn = 0 ∨ yn = 1) ∧ (rn = 1 ∨ rn = 2) ∧ Below W.heap.size W w' := by
  obtain ⟨a, c, rfl⟩ := hv.form
  obtain ⟨j1, p1, q1, hw1, hm1, hx1⟩ := small_num k 3 (by omega) (by omega)
  obtain ⟨j2, p2, q2, hw2, hm2, hx2⟩ := small_num key 2 (by omega) (by omega)
  obtain ⟨j3, p3, q3, hw3, hm3, hx3⟩ := small_num ver 2 (by omega) (by omega)
  obtain ⟨j4, p4, q4, hw4, hm4, hx4⟩ := small_num bal 20 (by omega) (by omega)
  have HV0 := hid hv
  have hj1 : j1 = 0 ∨ j1 = 1 ∨ j1 = 2 := by omega
  clear hx2
  by_cases hlen : 100 < m.length
  · have hd : decide ((m.length : Int) > 100) = true := decide_eq_true (by omega)
    have hc : 100 ≤ c := by
      rcases HV0.out with h | ⟨h, _⟩
      · obtain ⟨_, _, e, h1, _⟩ := h
        injection e with _ _ e
        subst e
        omega
      · rw [h] at hlen; simp at hlen
    have hsl := fun (w : World) => run_slice_to (P := Tryz.prog) Tryz.underlying22 szu8 a m.length c 100 (by omega) (by omega) w
    rcases hj1 with rfl | rfl | rfl
    · skip
      go_enter Tryz.func25, Tryz.ntmps25
      go_wp2_with fail
      obtain ⟨WZ, hWZ⟩ : ∃ WZ, (W.alloc (.cells #[.int .i64 1, .int .i64 j2, .int .i64 (1 + j3), .int .i64 (1 + j4), .slice none 0 0] 24)).alloc (.cells #[.int .i64 1, .int .i64 j2, .int .i64 (1 + j3), .int .i64 (1 + j4), .slice none 0 0] 24) = WZ := ⟨_, rfl⟩
      have kZ : Blk WZ (W.heap.size + 1) #[.int .i64 1, .int .i64 j2, .int .i64 (1 + j3), .int .i64 (1 + j4), .slice none 0 0] 24 := by rw [← hWZ]; exact Blk.new' _ _ (by simp) _ _
      have bZ : Below W.heap.size W WZ := by rw [← hWZ]; exact ((Below.refl _ W).alloc (Nat.le_refl _) _).alloc (by simp) _
      rw [hWZ]
      have hld := run_loadVar_row (P := Tryz.prog) WZ (W.heap.size + 1) 24 24 _ (0, 0) _ kZ Tryz.underlying24 rfl size_rq8'
      refine bodyPost_ret (v := .agg #[.int .i64 1, .int .i64 j2, .int .i64 (1 + j3), .int .i64 (1 + j4), .slice none 0 0]) ?_ rfl ?_
      · simp [results, Tryz.results25, hld, asAddr]
      · refine ⟨_, _, _, _, _, [], rfl, ?_, by omega, decide_eq_true (by first | omega | (simp; done) | (simp; omega)), by omega, by first | omega | (simp; done) | (simp; omega), by omega, by omega, bZ⟩
        exact fun _ _ => .inl (Bs.nil _)
    · skip
      go_enter Tryz.func25, Tryz.ntmps25
      go_wp2_with fail
      obtain ⟨WZ, hWZ⟩ : ∃ WZ, (W.alloc (.cells #[.int .i64 2, .int .i64 j2, .int .i64 (1 + j3), .int .i64 (1 + j4), .slice a 100 c] 24)).alloc (.cells #[.int .i64 2, .int .i64 j2, .int .i64 (1 + j3), .int .i64 (1 + j4), .slice a 100 c] 24) = WZ := ⟨_, rfl⟩
      have kZ : Blk WZ (W.heap.size + 1) #[.int .i64 2, .int .i64 j2, .int .i64 (1 + j3), .int .i64 (1 + j4), .slice a 100 c] 24 := by rw [← hWZ]; exact Blk.new' _ _ (by simp) _ _
      have bZ : Below W.heap.size W WZ := by rw [← hWZ]; exact ((Below.refl _ W).alloc (Nat.le_refl _) _).alloc (by simp) _
      rw [hWZ]
      have hld := run_loadVar_row (P := Tryz.prog) WZ (W.heap.size + 1) 24 24 _ (0, 0) _ kZ Tryz.underlying24 rfl size_rq8'
      refine bodyPost_ret (v := .agg #[.int .i64 2, .int .i64 j2, .int .i64 (1 + j3), .int .i64 (1 + j4), .slice a 100 c]) ?_ rfl ?_
      · simp [results, Tryz.results25, hld, asAddr]
      · refine ⟨_, _, _, _, _, (m.take 100), rfl, ?_, by omega, decide_eq_true (by first | omega | (simp; done) | (simp; omega)), by omega, by first | omega | (simp; done) | (simp; omega), by omega, by omega, bZ⟩
        exact fun _ h => small_take h hlen (Below.refl _ _)
    · skip
      go_enter Tryz.func25, Tryz.ntmps25
      go_wp2_with fail
      obtain ⟨WZ, hWZ⟩ : ∃ WZ, (W.alloc (.cells #[.int .i64 3, .int .i64 j2, .int .i64 (1 + j3), .int .i64 0, .slice a 100 c] 24)).alloc (.cells #[.int .i64 3, .int .i64 j2, .int .i64 (1 + j3), .int .i64 0, .slice a 100 c] 24) = WZ := ⟨_, rfl⟩
      have kZ : Blk WZ (W.heap.size + 1) #[.int .i64 3, .int .i64 j2, .int .i64 (1 + j3), .int .i64 0, .slice a 100 c] 24 := by rw [← hWZ]; exact Blk.new' _ _ (by simp) _ _
      have bZ : Below W.heap.size W WZ := by rw [← hWZ]; exact ((Below.refl _ W).alloc (Nat.le_refl _) _).alloc (by simp) _
      rw [hWZ]
      have hld := run_loadVar_row (P := Tryz.prog) WZ (W.heap.size + 1) 24 24 _ (0, 0) _ kZ Tryz.underlying24 rfl size_rq8'
      refine bodyPost_ret (v := .agg #[.int .i64 3, .int .i64 j2, .int .i64 (1 + j3), .int .i64 0, .slice a 100 c]) ?_ rfl ?_
      · simp [results, Tryz.results25, hld, asAddr]
      · refine ⟨_, _, _, _, _, (m.take 100), rfl, ?_, by omega, decide_eq_true (by first | omega | (simp; done) | (simp; omega)), by omega, by first | omega | (simp; done) | (simp; omega), by omega, by omega, bZ⟩
        exact fun _ h => small_take h hlen (Below.refl _ _)
  · have hd : decide ((m.length : Int) > 100) = false := decide_eq_false (by omega)
    rcases hj1 with rfl | rfl | rfl
    · skip
      go_enter Tryz.func25, Tryz.ntmps25
      go_wp2_with fail
      obtain ⟨WZ, hWZ⟩ : ∃ WZ, (W.alloc (.cells #[.int .i64 1, .int .i64 j2, .int .i64 (1 + j3), .int .i64 (1 + j4), .slice none 0 0] 24)).alloc (.cells #[.int .i64 1, .int .i64 j2, .int .i64 (1 + j3), .int .i64 (1 + j4), .slice none 0 0] 24) = WZ := ⟨_, rfl⟩
      have kZ : Blk WZ (W.heap.size + 1) #[.int .i64 1, .int .i64 j2, .int .i64 (1 + j3), .int .i64 (1 + j4), .slice none 0 0] 24 := by rw [← hWZ]; exact Blk.new' _ _ (by simp) _ _
      have bZ : Below W.heap.size W WZ := by rw [← hWZ]; exact ((Below.refl _ W).alloc (Nat.le_refl _) _).alloc (by simp) _
      rw [hWZ]
      have hld := run_loadVar_row (P := Tryz.prog) WZ (W.heap.size + 1) 24 24 _ (0, 0) _ kZ Tryz.underlying24 rfl size_rq8'
      refine bodyPost_ret (v := .agg #[.int .i64 1, .int .i64 j2, .int .i64 (1 + j3), .int .i64 (1 + j4), .slice none 0 0]) ?_ rfl ?_
      · simp [results, Tryz.results25, hld, asAddr]
      · refine ⟨_, _, _, _, _, [], rfl, ?_, by omega, decide_eq_true (by first | omega | (simp; done) | (simp; omega)), by omega, by first | omega | (simp; done) | (simp; omega), by omega, by omega, bZ⟩
        exact fun _ _ => .inl (Bs.nil _)
    · skip
      go_enter Tryz.func25, Tryz.ntmps25
      go_wp2_with fail
      obtain ⟨WZ, hWZ⟩ : ∃ WZ, (W.alloc (.cells #[.int .i64 2, .int .i64 j2, .int .i64 (1 + j3), .int .i64 (1 + j4), .slice a m.length c] 24)).alloc (.cells #[.int .i64 2, .int .i64 j2, .int .i64 (1 + j3), .int .i64 (1 + j4), .slice a m.length c] 24) = WZ := ⟨_, rfl⟩
      have kZ : Blk WZ (W.heap.size + 1) #[.int .i64 2, .int .i64 j2, .int .i64 (1 + j3), .int .i64 (1 + j4), .slice a m.length c] 24 := by rw [← hWZ]; exact Blk.new' _ _ (by simp) _ _
      have bZ : Below W.heap.size W WZ := by rw [← hWZ]; exact ((Below.refl _ W).alloc (Nat.le_refl _) _).alloc (by simp) _
      rw [hWZ]
      have hld := run_loadVar_row (P := Tryz.prog) WZ (W.heap.size + 1) 24 24 _ (0, 0) _ kZ Tryz.underlying24 rfl size_rq8'
      refine bodyPost_ret (v := .agg #[.int .i64 2, .int .i64 j2, .int .i64 (1 + j3), .int .i64 (1 + j4), .slice a m.length c]) ?_ rfl ?_
      · simp [results, Tryz.results25, hld, asAddr]
      · refine ⟨_, _, _, _, _, m, rfl, ?_, by omega, decide_eq_true (by first | omega | (simp; done) | (simp; omega)), by omega, by first | omega | (simp; done) | (simp; omega), by omega, by omega, bZ⟩
        exact fun _ h => h
    · skip
      go_enter Tryz.func25, Tryz.ntmps25
      go_wp2_with fail
      obtain ⟨WZ, hWZ⟩ : ∃ WZ, (W.alloc (.cells #[.int .i64 3, .int .i64 j2, .int .i64 (1 + j3), .int .i64 0, .slice a m.length c] 24)).alloc (.cells #[.int .i64 3, .int .i64 j2, .int .i64 (1 + j3), .int .i64 0, .slice a m.length c] 24) = WZ := ⟨_, rfl⟩
      have kZ : Blk WZ (W.heap.size + 1) #[.int .i64 3, .int .i64 j2, .int .i64 (1 + j3), .int .i64 0, .slice a m.length c] 24 := by rw [← hWZ]; exact Blk.new' _ _ (by simp) _ _
      have bZ : Below W.heap.size W WZ := by rw [← hWZ]; exact ((Below.refl _ W).alloc (Nat.le_refl _) _).alloc (by simp) _
      rw [hWZ]
      have hld := run_loadVar_row (P := Tryz.prog) WZ (W.heap.size + 1) 24 24 _ (0, 0) _ kZ Tryz.underlying24 rfl size_rq8'
      refine bodyPost_ret (v := .agg #[.int .i64 3, .int .i64 j2, .int .i64 (1 + j3), .int .i64 0, .slice a m.length c]) ?_ rfl ?_
      · simp [results, Tryz.results25, hld, asAddr]
      · refine ⟨_, _, _, _, _, m, rfl, ?_, by omega, decide_eq_true (by first | omega | (simp; done) | (simp; omega)), by omega, by first | omega | (simp; done) | (simp; omega), by omega, by omega, bZ⟩
        exact fun _ h => h
end Go.Proofs.YtnbeagcmfcdklaaGreat
