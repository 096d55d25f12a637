import Derived.Test.YtpkaepmmkojdaaaNextB
import Derived.Test.YtpkaepmmkojdaaaMSSeal
import Derived.Test.YtpkaepmmkojdaaaMDisk
import Derived.Test.YtpkaepmmkojdaaaStage
/-! Package store: next, on: the blocks of an entry, one behind the other; then in one word. -/
namespace Go.Proofs.Ytpkaepmmkojdaaa
open Go.RowKit
def NextPost (W : World) (r : Option ((Nat × Nat × Nat × List UInt8) × Nat)) (e : Ending) (w' : World) : Prop :=
  match r with
  | none => e = .returned (.tuple #[.agg #[.int .i64 0, .int .i64 0, .int .i64 0, .slice none 0 0], .int .i64 0, .bool false]) ∧ Below W.heap.size W w'
  | some ((kd, lo, po, x), n) => ∃ v, e = .returned (.tuple #[.agg #[.int .i64 (kd : Int), .int .i64 (lo : Int), .int .i64 (po : Int), v], .int .i64 (n : Int), .bool true]) ∧ Bs w' v x ∧ Below W.heap.size W w'
theorem Dk.gather_none {D : Dk} {num fin n i : Nat} (h : D.gather num fin n i = none) : ∀ j, i ≤ j → D.gather num fin n j = none
  | 0, hj => by obtain rfl : i = 0 := by omega
                exact h
  | j + 1, hj => by
    by_cases e : i = j + 1
    · rw [← e]; exact h
    · unfold Dk.gather
      rw [Dk.gather_none h j (by omega)]
theorem Dk.next_stuck {D : Dk} {num fin k n : Nat} {x : List UInt8} (hp : D.part num fin = some (k, n, x)) {j : Nat} (hj : j < n) (hs : ∀ k' of' p', D.part num (fin + j) = some (k', of', p') → ¬ (k' = j ∧ of' = n)) : D.next num fin = none := by
  have h1 : D.gather num fin n (j + 1) = none := by
    unfold Dk.gather
    split
    · rename_i a k' m y h1 h2
      rw [if_neg (hs _ _ _ h2)]
    · rfl
  have h2 := Dk.gather_none h1 n (by omega)
  unfold Dk.next
  rw [hp]
  simp only
  rw [h2]
  split <;> rfl
theorem Dk.next_found {D : Dk} {num fin k n : Nat} {x l : List UInt8} (hp : D.part num fin = some (k, n, x)) (hn : 1 ≤ n) (hf : n ≤ D.texts.length - fin) (hg : D.gather num fin n n = some l) :
    D.next num fin = if 13 ≤ l.length ∧ 1 ≤ (l.getD 0 0).toNat ∧ (l.getD 0 0).toNat ≤ 3 then some (((l.getD 0 0).toNat, numOf ((l.drop 1).take 6), numOf ((l.drop 7).take 6), l.drop 13), n) else none := by
  unfold Dk.next
  rw [hp]
  simp only
  rw [if_neg (by omega), hg]
theorem wrap_step (j : Nat) (h : j < 1000000) : wrap64 ((j : Int) + 1) = (j : Int) + 1 := by unfold wrap64; omega
theorem measure_step (n j : Nat) (h : j < n) (u v : Value) (hu : u = .int .i64 ((j + 1 : Nat) : Int)) (hv : v = .int .i64 (j : Int)) : n - (intOf u).toNat < n - (intOf v).toNat := by
  subst hu hv
  simp only [intOf, Int.toNat_natCast]
  omega
theorem own_sla (g o c k n m : Nat) : (Value.slice (sla (some ⟨g, o, none⟩) c k) n m).ownBlock = (Value.slice (some ⟨g, o, none⟩) n m).ownBlock := by
  unfold sla
  split
  · rfl
  · show (Value.slice (some (Addr.add ⟨g, o, none⟩ k)) n m).ownBlock = _
    unfold Addr.add
    split <;> rfl
section
variable {W : World} {q : StP} {S : St} {D : Dk}
set_option maxRecDepth 100000 in
set_option maxHeartbeats 6400000 in
theorem store_next_go (h : StAt W q S D) (hoff : D.off = false) (hlt : S.fin < D.texts.length) (hvs : ∀ i, D.vers i = none) (k n : Nat) (x : List UInt8) (hp : D.part S.num S.fin = some (k, n, x)) (hn : 1 ≤ n) (hfit : n ≤ D.texts.length - S.fin) :
    Calls Try.prog 15 #[.pointer (some ⟨q.s, 0, none⟩)] W (NextPost W (D.next S.num S.fin)) := by
  obtain ⟨W1, hW1⟩ : ∃ W1, W.alloc (.cells #[.int .i64 0, .int .i64 0, .int .i64 0, .slice none 0 0] 62) = W1 := ⟨_, rfl⟩
  have b1 : Below W.heap.size W W1 := by rw [← hW1]; exact (Below.refl _ W).alloc (Nat.le_refl _) _
  have q0 : Blk W1 W.heap.size #[.int .i64 0, .int .i64 0, .int .i64 0, .slice none 0 0] 62 := by rw [← hW1]; exact Blk.new W _ _
  have h1 := h.keep b1
  have c3 := h1.cell.cell (o := 3) rfl
  go_enter Try.func15, Try.ntmps15
  go_wp2_with fail
  refine (store_part h1 hoff S.fin hlt (hvs _)).mono ?_
  rw [hp]
  rintro e W2 ⟨v, rfl, hbv, hvo, b2⟩
  obtain ⟨va, vc, rfl⟩ := hbv.form
  have HVO := hid (fun (k : Nat) (hk : (Value.slice va x.length vc).ownBlock = some k) => (show k ≠ W.heap.size from by have := hvo k hk; have := q0.lt; omega))
  have HV := hid hbv
  have HQ := hid (q0.keep b2)
  have HB2 := hid (b1.trans (b2.mono b1.size))
  have HS := hid (h1.keep b2)
  have hd1 : decide ((n : Int) < 1) = false := decide_eq_false (by omega)
  have hmost := h.disk.most
  obtain ⟨N, hN⟩ : ∃ N, D.texts.length = N := ⟨_, rfl⟩
  have HP := hid hp
  have HOFF := hid hoff
  have HVS := hid hvs
  have HN1 := hid hn
  have HFIT := hid (show S.fin + n ≤ D.texts.length by omega)
  have HMOST := hid hmost
  rw [hN] at hfit hmost hlt
  have HN := hid hN
  have hd2 : decide ((n : Int) > (N : Int) - (S.fin : Int)) = false := decide_eq_false (by omega)
  have hw2 : IntKind.i64.wrap ((N : Int) - (S.fin : Int)) = (N : Int) - (S.fin : Int) := by rw [IntKind.wrap_i64]; omega
  clear hfit hmost hN hn
  clear b1 b2 q0 h1 c3 hp hlt hoff h hvs hbv hvo
  go_upto_region 2 with fail
  refine wp_region_invG rfl Grows (fun i v x => match i with
      | 0 => v = .bool true
      | 1 => v = .bool false
      | 2 => v = .bool false
      | 3 => v = .int .i64 (n : Int)
      | 4 => v = .bool false
      | 5 => v = .bool false
      | 6 => v = .bool false
      | 7 => v = .int .i64 (n : Int)
      | 8 => v = .pointer (some ⟨q.s, 0, none⟩)
      | 9 => v = .pointer (some ⟨q.s, 0, none⟩)
      | 10 => v = .pointer (some ⟨q.s, 0, none⟩)
      | 11 => v = .pointer (some ⟨q.p.d, 0, none⟩)
      | 12 => v = .int .i64 (N : Int)
      | 13 => v = .pointer (some ⟨q.s, 0, none⟩)
      | 14 => v = .pointer (some ⟨q.s, 0, none⟩)
      | 15 => v = .pointer (some ⟨q.s, 3, none⟩)
      | 16 => v = .int .i64 (S.fin : Int)
      | 17 => v = .int .i64 ((N : Int) - (S.fin : Int))
      | 18 => v = .bool false
      | 19 => v = .bool false
      | _ => True) (by kernel_rfl) Grows.refl Grows.trans ?rstab ?rsteps ?rfin
  case rstab =>
    intro i v x y hg h
    match i with
    | 0 | 1 | 2 | 3 | 4 | 5 | 6 | 7 | 8 | 9 | 10 | 11 | 12 | 13 | 14 | 15 | 16 | 17 | 18 | 19 => exact h
    | n + 20 => trivial
  case rsteps =>
    refine ⟨?_, ?_, ?_, ?_, ?_, ?_, ?_, ?_, ?_, ?_, ?_, ?_, ?_, ?_, ?_, ?_, ?_, ?_, ?_, ?_, trivial⟩
    · intro a x hA
      refine .inl ⟨rfl, ?_⟩
      have t4 := hA.at_ 4 (by first | rfl | kernel_rfl) rfl
      refine step_value (w' := x) (v := .bool true) ?_ (Grows.refl _) ?_
      · go_simp
      · rfl
    · intro a x hA
      refine .inl ⟨rfl, ?_⟩
      have t24 : a.tmps[24]?.getD undef = .bool true := hA.dep_ ⟨0, .data⟩ (by simp) _ 24 rfl rfl
      refine step_value (w' := x) (v := .bool false) ?_ (Grows.refl _) ?_
      · go_simp
      · rfl
    · intro a x hA
      refine .inl ⟨rfl, ?_⟩
      have t25 : a.tmps[25]?.getD undef = .bool false := hA.dep_ ⟨1, .data⟩ (by simp) _ 25 rfl rfl
      refine step_value (w' := x) (v := .bool false) ?_ (Grows.refl _) ?_
      · go_simp
      · rfl
    · intro a x hA
      have tg : a.tmps[26]?.getD undef = .bool false := hA.dep_ ⟨2, .guard⟩ (by simp) _ 26 rfl rfl
      refine .inl ⟨by rw [wanted_of (j := 2) rfl (yielded_of (by rfl) rfl tg)]; rfl, ?_⟩
      clear tg
      have t3 := hA.at_ 3 (by first | rfl | kernel_rfl) rfl
      refine step_value (w' := x) (v := .int .i64 (n : Int)) ?_ (Grows.refl _) ?_
      · go_simp
      · rfl
    · intro a x hA
      have tg : a.tmps[26]?.getD undef = .bool false := hA.dep_ ⟨2, .guard⟩ (by simp) _ 26 rfl rfl
      refine .inl ⟨by rw [wanted_of (j := 2) rfl (yielded_of (by rfl) rfl tg)]; rfl, ?_⟩
      clear tg
      have t27 : a.tmps[27]?.getD undef = .int .i64 (n : Int) := hA.dep_ ⟨3, .data⟩ (by simp) _ 27 rfl rfl
      refine step_value (w' := x) (v := .bool false) ?_ (Grows.refl _) ?_
      · go_simp
      · rfl
    · intro a x hA
      refine .inl ⟨rfl, ?_⟩
      have t26 : a.tmps[26]?.getD undef = .bool false := hA.dep_ ⟨2, .data⟩ (by simp) _ 26 rfl rfl
      have t28 : a.tmps[28]?.getD undef = .bool false := hA.dep_ ⟨4, .data⟩ (by simp) _ 28 rfl rfl
      refine step_value (w' := x) (v := .bool false) ?_ (Grows.refl _) ?_
      · go_simp
      · rfl
    · intro a x hA
      refine .inl ⟨rfl, ?_⟩
      have t29 : a.tmps[29]?.getD undef = .bool false := hA.dep_ ⟨5, .data⟩ (by simp) _ 29 rfl rfl
      refine step_value (w' := x) (v := .bool false) ?_ (Grows.refl _) ?_
      · go_simp
      · rfl
    · intro a x hA
      have tg : a.tmps[30]?.getD undef = .bool false := hA.dep_ ⟨6, .guard⟩ (by simp) _ 30 rfl rfl
      refine .inl ⟨by rw [wanted_of (j := 6) rfl (yielded_of (by rfl) rfl tg)]; rfl, ?_⟩
      clear tg
      have t3 := hA.at_ 3 (by first | rfl | kernel_rfl) rfl
      refine step_value (w' := x) (v := .int .i64 (n : Int)) ?_ (Grows.refl _) ?_
      · go_simp
      · rfl
    · intro a x hA
      have tg : a.tmps[30]?.getD undef = .bool false := hA.dep_ ⟨6, .guard⟩ (by simp) _ 30 rfl rfl
      refine .inl ⟨by rw [wanted_of (j := 6) rfl (yielded_of (by rfl) rfl tg)]; rfl, ?_⟩
      clear tg
      have t0 := hA.at_ 0 (by first | rfl | kernel_rfl) rfl
      refine step_value (w' := x) (v := .pointer (some ⟨q.s, 0, none⟩)) ?_ (Grows.refl _) ?_
      · go_simp
      · rfl
    · intro a x hA
      have tg : a.tmps[30]?.getD undef = .bool false := hA.dep_ ⟨6, .guard⟩ (by simp) _ 30 rfl rfl
      refine .inl ⟨by rw [wanted_of (j := 6) rfl (yielded_of (by rfl) rfl tg)]; rfl, ?_⟩
      clear tg
      have t32 : a.tmps[32]?.getD undef = .pointer (some ⟨q.s, 0, none⟩) := hA.dep_ ⟨8, .data⟩ (by simp) _ 32 rfl rfl
      refine step_value (w' := x) (v := .pointer (some ⟨q.s, 0, none⟩)) ?_ (Grows.refl _) ?_
      · go_simp
      · rfl
    · intro a x hA
      have tg : a.tmps[30]?.getD undef = .bool false := hA.dep_ ⟨6, .guard⟩ (by simp) _ 30 rfl rfl
      refine .inl ⟨by rw [wanted_of (j := 6) rfl (yielded_of (by rfl) rfl tg)]; rfl, ?_⟩
      clear tg
      have t33 : a.tmps[33]?.getD undef = .pointer (some ⟨q.s, 0, none⟩) := hA.dep_ ⟨9, .data⟩ (by simp) _ 33 rfl rfl
      refine step_value (w' := x) (v := .pointer (some ⟨q.s, 0, none⟩)) ?_ (Grows.refl _) ?_
      · go_simp
      · rfl
    · intro a x hA
      have tg : a.tmps[30]?.getD undef = .bool false := hA.dep_ ⟨6, .guard⟩ (by simp) _ 30 rfl rfl
      refine .inl ⟨by rw [wanted_of (j := 6) rfl (yielded_of (by rfl) rfl tg)]; rfl, ?_⟩
      clear tg
      have t34 : a.tmps[34]?.getD undef = .pointer (some ⟨q.s, 0, none⟩) := hA.dep_ ⟨10, .data⟩ (by simp) _ 34 rfl rfl
      have hSx := HS.out.keep hA.grown
      have cs0 := hSx.cell.cell (o := 0) rfl
      have cs3 := hSx.cell.cell (o := 3) rfl
      clear hSx
      refine step_value (w' := x) (v := .pointer (some ⟨q.p.d, 0, none⟩)) ?_ (Grows.refl _) ?_
      · go_simp
      · rfl
    · intro a x hA
      have tg : a.tmps[30]?.getD undef = .bool false := hA.dep_ ⟨6, .guard⟩ (by simp) _ 30 rfl rfl
      refine .inl ⟨by rw [wanted_of (j := 6) rfl (yielded_of (by rfl) rfl tg)]; rfl, ?_⟩
      clear tg
      have t35 : a.tmps[35]?.getD undef = .pointer (some ⟨q.p.d, 0, none⟩) := hA.dep_ ⟨11, .data⟩ (by simp) _ 35 rfl rfl
      have hSx := HS.out.keep hA.grown
      have cs0 := hSx.cell.cell (o := 0) rfl
      have cs3 := hSx.cell.cell (o := 3) rfl
      clear hSx
      have hSy := HS.out.keep hA.grown
      have hbl := disk_Blocks hSy.disk
      rw [HN.out] at hbl
      refine step_call (f := 13) (args := #[.pointer (some ⟨q.p.d, 0, none⟩)]) (by clear hSy hbl; go_simp) (hbl.mono ?_)
      rintro e w' ⟨rfl, hw⟩
      subst hw
      exact ⟨_, rfl, Grows.refl _, rfl⟩
    · intro a x hA
      have tg : a.tmps[30]?.getD undef = .bool false := hA.dep_ ⟨6, .guard⟩ (by simp) _ 30 rfl rfl
      refine .inl ⟨by rw [wanted_of (j := 6) rfl (yielded_of (by rfl) rfl tg)]; rfl, ?_⟩
      clear tg
      have t0 := hA.at_ 0 (by first | rfl | kernel_rfl) rfl
      refine step_value (w' := x) (v := .pointer (some ⟨q.s, 0, none⟩)) ?_ (Grows.refl _) ?_
      · go_simp
      · rfl
    · intro a x hA
      have tg : a.tmps[30]?.getD undef = .bool false := hA.dep_ ⟨6, .guard⟩ (by simp) _ 30 rfl rfl
      refine .inl ⟨by rw [wanted_of (j := 6) rfl (yielded_of (by rfl) rfl tg)]; rfl, ?_⟩
      clear tg
      have t37 : a.tmps[37]?.getD undef = .pointer (some ⟨q.s, 0, none⟩) := hA.dep_ ⟨13, .data⟩ (by simp) _ 37 rfl rfl
      refine step_value (w' := x) (v := .pointer (some ⟨q.s, 0, none⟩)) ?_ (Grows.refl _) ?_
      · go_simp
      · rfl
    · intro a x hA
      have tg : a.tmps[30]?.getD undef = .bool false := hA.dep_ ⟨6, .guard⟩ (by simp) _ 30 rfl rfl
      refine .inl ⟨by rw [wanted_of (j := 6) rfl (yielded_of (by rfl) rfl tg)]; rfl, ?_⟩
      clear tg
      have t38 : a.tmps[38]?.getD undef = .pointer (some ⟨q.s, 0, none⟩) := hA.dep_ ⟨14, .data⟩ (by simp) _ 38 rfl rfl
      refine step_value (w' := x) (v := .pointer (some ⟨q.s, 3, none⟩)) ?_ (Grows.refl _) ?_
      · go_simp
      · rfl
    · intro a x hA
      have tg : a.tmps[30]?.getD undef = .bool false := hA.dep_ ⟨6, .guard⟩ (by simp) _ 30 rfl rfl
      refine .inl ⟨by rw [wanted_of (j := 6) rfl (yielded_of (by rfl) rfl tg)]; rfl, ?_⟩
      clear tg
      have t39 : a.tmps[39]?.getD undef = .pointer (some ⟨q.s, 3, none⟩) := hA.dep_ ⟨15, .data⟩ (by simp) _ 39 rfl rfl
      have hSx := HS.out.keep hA.grown
      have cs0 := hSx.cell.cell (o := 0) rfl
      have cs3 := hSx.cell.cell (o := 3) rfl
      clear hSx
      refine step_value (w' := x) (v := .int .i64 (S.fin : Int)) ?_ (Grows.refl _) ?_
      · go_simp
      · rfl
    · intro a x hA
      have tg : a.tmps[30]?.getD undef = .bool false := hA.dep_ ⟨6, .guard⟩ (by simp) _ 30 rfl rfl
      refine .inl ⟨by rw [wanted_of (j := 6) rfl (yielded_of (by rfl) rfl tg)]; rfl, ?_⟩
      clear tg
      have t36 : a.tmps[36]?.getD undef = .int .i64 (N : Int) := hA.dep_ ⟨12, .data⟩ (by simp) _ 36 rfl rfl
      have t40 : a.tmps[40]?.getD undef = .int .i64 (S.fin : Int) := hA.dep_ ⟨16, .data⟩ (by simp) _ 40 rfl rfl
      refine step_value (w' := x) (v := .int .i64 ((N : Int) - (S.fin : Int))) ?_ (Grows.refl _) ?_
      · go_simp
      · rfl
    · intro a x hA
      have tg : a.tmps[30]?.getD undef = .bool false := hA.dep_ ⟨6, .guard⟩ (by simp) _ 30 rfl rfl
      refine .inl ⟨by rw [wanted_of (j := 6) rfl (yielded_of (by rfl) rfl tg)]; rfl, ?_⟩
      clear tg
      have t31 : a.tmps[31]?.getD undef = .int .i64 (n : Int) := hA.dep_ ⟨7, .data⟩ (by simp) _ 31 rfl rfl
      have t41 : a.tmps[41]?.getD undef = .int .i64 ((N : Int) - (S.fin : Int)) := hA.dep_ ⟨17, .data⟩ (by simp) _ 41 rfl rfl
      refine step_value (w' := x) (v := .bool false) ?_ (Grows.refl _) ?_
      · go_simp
      · rfl
    · intro a x hA
      refine .inl ⟨rfl, ?_⟩
      have t30 : a.tmps[30]?.getD undef = .bool false := hA.dep_ ⟨6, .data⟩ (by simp) _ 30 rfl rfl
      have t42 : a.tmps[42]?.getD undef = .bool false := hA.dep_ ⟨18, .data⟩ (by simp) _ 42 rfl rfl
      refine step_value (w' := x) (v := .bool false) ?_ (Grows.refl _) ?_
      · go_simp
      · rfl
  case rfin =>
    intro y W' hg hV
    simp only [AllVals] at hV
    obtain ⟨-, -, -, -, -, -, -, -, -, -, -, -, -, -, -, -, -, -, -, u19, -⟩ := hV
    have hb := pg_to hg
    clear hg
    simp only [putAll, Act.put, List.setIfInBounds_toArray, List.set_cons_zero, List.set_cons_succ]
    rw [u19]
    clear u19
    have b3 := HB2.out.trans (hb.mono HB2.out.size)
    have q3 := HQ.out.keep hb
    have h3 := HS.out.keep hb
    have hv3 := HV.out.keep hb
    clear hb HQ HS HV HB2
    have HR := hid (And.intro b3 (And.intro q3 (And.intro h3 hv3)))
    clear b3 q3 h3 hv3
    go_wp2_with fail
    go_loopw [3, 7, 47] (fun nn al i wr => ∃ (j : Nat) (l : List UInt8) (a : Option Addr) (c : Nat), j ≤ n ∧ nn = .int .i64 (n : Int) ∧ i = .int .i64 (j : Int) ∧ al = .slice a l.length c ∧ ((j = 0 ∧ l = x) ∨ (1 ≤ j ∧ D.gather S.num S.fin n j = some l)) ∧ Below W.heap.size W wr ∧ Blk wr W.heap.size #[.int .i64 0, .int .i64 0, .int .i64 0, .slice none 0 0] 62 ∧ StAt wr q S D ∧ Bs wr (.slice a l.length c) l ∧ ∀ k, (Value.slice a l.length c).ownBlock = some k → k ≠ W.heap.size) (fun _ _ i _ => n - (intOf i).toNat)
    case atStart => exact ⟨0, x, va, vc, by omega, rfl, rfl, rfl, .inl ⟨rfl, rfl⟩, HR.out.1, HR.out.2.1, HR.out.2.2.1, HR.out.2.2.2, HVO.out⟩
    case round =>
      obtain ⟨j, l, a, c, hj, rfl, rfl, rfl, hga, hB, hBk, hSt, hBs, hOw⟩ := hrel
      clear HR
      by_cases hjn : j < n
      · have hd : decide ((j : Int) < (n : Int)) = true := decide_eq_true (by omega)
        have hpt := store_part hSt HOFF.out (S.fin + j) (by have := HFIT.out; omega) (HVS.out _)
        rw [Int.natCast_add] at hpt
        have hw : IntKind.i64.wrap ((S.fin : Int) + (j : Int)) = (S.fin : Int) + (j : Int) := by have := HFIT.out; have := HMOST.out; rw [IntKind.wrap_i64]; omega
        have c3 := hSt.cell.cell (o := 3) rfl
        have HPT := hid hpt
        have HL := hid (And.intro hB (And.intro hBk (And.intro hSt (And.intro hBs hOw))))
        have HGA := hid hga
        have HJ := hid hjn
        clear hpt hB hBk hSt hBs hOw hga hj hjn
        go_wp2_with fail
        refine HPT.out.mono ?_
        clear HPT c3 hw
        cases hpj : D.part S.num (S.fin + j) with
        | none =>
          as_aux_lemma =>
          have HNX := hid (Dk.next_stuck HP.out (j := j) (by have := HJ.out; omega) (by intro k' of' p' hh; rw [hpj] at hh; cases hh))
          clear hpj
          rintro e W5 ⟨rfl, b5⟩
          have hB5 := HL.out.1.trans (b5.mono HL.out.1.size)
          have q5 := HL.out.2.1.keep b5
          clear b5 HL
          have k0 := q5.cell (o := 0) rfl
          have k1 := q5.cell (o := 1) rfl
          have k2 := q5.cell (o := 2) rfl
          have k3 := q5.cell (o := 3) rfl
          have l0 := q5.free 0
          have l1 := q5.free 1
          have l2 := q5.free 2
          have l3 := q5.free 3
          have bS : Below W.heap.size W ((((W5.setCell ⟨W.heap.size, 0, none⟩ (.int .i64 0)).setCell ⟨W.heap.size, 1, none⟩ (.int .i64 0)).setCell ⟨W.heap.size, 2, none⟩ (.int .i64 0)).setCell ⟨W.heap.size, 3, none⟩ (.slice none 0 0)) :=
            (((hB5.setCell (p := ⟨W.heap.size, 0, none⟩) (by simp) _).setCell (p := ⟨W.heap.size, 1, none⟩) (by simp) _).setCell (p := ⟨W.heap.size, 2, none⟩) (by simp) _).setCell (p := ⟨W.heap.size, 3, none⟩) (by simp) _
          have qF : Blk ((((W5.setCell ⟨W.heap.size, 0, none⟩ (.int .i64 0)).setCell ⟨W.heap.size, 1, none⟩ (.int .i64 0)).setCell ⟨W.heap.size, 2, none⟩ (.int .i64 0)).setCell ⟨W.heap.size, 3, none⟩ (.slice none 0 0)) W.heap.size #[.int .i64 0, .int .i64 0, .int .i64 0, .slice none 0 0] 62 := by
            have := (((q5.set (o := 0) (.int .i64 0)).set (o := 1) (.int .i64 0)).set (o := 2) (.int .i64 0)).set (o := 3) (.slice none 0 0)
            simpa using this
          have HS9 := hid bS
          have HF := hid qF
          clear bS qF
          go_wp2_with fail
          have bS := HS9.out
          have qF := HF.out
          clear HS9 HF
          generalize (((W5.setCell ⟨W.heap.size, 0, none⟩ (.int .i64 0)).setCell ⟨W.heap.size, 1, none⟩ (.int .i64 0)).setCell ⟨W.heap.size, 2, none⟩ (.int .i64 0)).setCell ⟨W.heap.size, 3, none⟩ (.slice none 0 0) = WS at *
          have hld := run_loadVar_row (P := Try.prog) WS W.heap.size 62 62 _ (0, 0) _ qF Try.underlying62 rfl size_entry
          refine bodyPost_ret (v := .tuple #[.agg #[.int .i64 0, .int .i64 0, .int .i64 0, .slice none 0 0], .int .i64 0, .bool false]) ?_ rfl ?_
          · simp [results, Try.results15, hld, asAddr]
          · rw [HNX.out]; exact ⟨rfl, bS⟩
    
        | some r =>
          obtain ⟨k', of', p'⟩ := r
          rintro e W5 ⟨v5, rfl, hb5, ho5, b5⟩
          obtain ⟨a5, c5, rfl⟩ := hb5.form
          by_cases hkk : k' = j ∧ of' = n
          · obtain ⟨hk1, hk2⟩ := hkk
            obtain rfl : j = k' := hk1.symm
            obtain rfl : n = of' := hk2.symm
            clear hk1 hk2
            have hgn : D.gather S.num S.fin n (j + 1) = some (if j = 0 then l else l ++ p') := by
              unfold Dk.gather
              rcases HGA.out with ⟨h0, hx⟩ | ⟨h0, hx⟩
              · subst h0
                rw [hpj]
                simp only [Dk.gather, if_true, and_self]
                have := HP.out
                rw [show S.fin = S.fin + 0 from rfl, hpj] at this
                cases this
                rw [hx]
                rfl
              · rw [hx, hpj]
                simp only [if_true, and_self]
                rw [if_neg (by omega)]
            have HPL := hid (Dk.part_len hpj).1
            have HGN := hid hgn
            have HW := hid (And.intro (HL.out.1.trans (b5.mono HL.out.1.size)) (And.intro (HL.out.2.1.keep b5) (And.intro (HL.out.2.2.1.keep b5) (And.intro (HL.out.2.2.2.1.keep b5) (And.intro HL.out.2.2.2.2 (And.intro hb5 (And.intro ho5 b5.size)))))))
            clear hpj hgn hb5 ho5 b5 HL
            by_cases hk0 : j = 0
            · as_aux_lemma =>
              subst hk0
              go_wp2_with fail
              go_roundw
              case rel => exact ⟨1, l, a, c, by have := HJ.out; omega, rfl, by go_num, rfl, .inr ⟨by omega, HGN.out⟩, HW.out.1, HW.out.2.1, HW.out.2.2.1, HW.out.2.2.2.1, HW.out.2.2.2.2.1⟩
              case measure => have := HJ.out; simp [intOf]; omega
            · as_aux_lemma =>
              have hgt : decide ((j : Int) > 0) = true := decide_eq_true (by omega)
              have hgt2 : (0 : Int) < (j : Int) := by omega
              have hC := slices_Concat W5.heap.size 2 2 [.slice a l.length c, .slice a5 p'.length c5] [l, p'] (W5.alloc (.cells #[.slice a l.length c, .slice a5 p'.length c5] 40)) rfl (Parts.two (Blk.new _ _ _) (HW.out.2.2.2.1.keep ((Below.refl _ _).alloc (Nat.le_refl _) _)) (HW.out.2.2.2.2.2.1.keep ((Below.refl _ _).alloc (Nat.le_refl _) _))) (by simp) (by
                have h1 := HPL.out
                rcases HGA.out with ⟨h0, _⟩ | ⟨_, hx⟩
                · exact absurd h0 hk0
                · have h2 := Dk.gather_len hx
                  have h3 := HJ.out
                  have h4 := HFIT.out
                  have h5 := HMOST.out
                  simp
                  omega)
              have b6 : Below W5.heap.size W5 (W5.alloc (.cells #[.slice a l.length c, .slice a5 p'.length c5] 40)) := (Below.refl _ _).alloc (Nat.le_refl _) _
              have HC := hid hC
              have HB6 := hid b6
              clear hC b6
              have HK0 := hid hk0
              clear hk0
              go_wp2_with fail
              refine HC.out.mono ?_
              rintro e W7 ⟨v7, rfl, o7, b7⟩
              obtain ⟨a7, c7, rfl⟩ := o7.form
              have hfl : [l, p'].flatten = l ++ p' := by simp
              rw [hfl] at o7
              have b57 := HB6.out.trans (b7.mono HB6.out.size)
              have HO7 := hid (And.intro o7 b57)
              clear o7 b7 b57 HC HB6
              rw [hfl]
              go_wp2_with fail
              go_roundw
              case rel =>
                have hg9 := HGN.out
                rw [if_neg HK0.out] at hg9
                have h7 := HFIT.out
                have h8 := HMOST.out
                have h6 := HJ.out
                have hw := wrap_step j (by omega)
                refine ⟨j + 1, l ++ p', a7, c7, by omega, rfl, by rw [hw]; rfl, by rw [List.length_append], .inr ⟨by omega, hg9⟩, HW.out.1.trans (HO7.out.2.mono HW.out.1.size), HW.out.2.1.keep HO7.out.2, HW.out.2.2.1.keep HO7.out.2, HO7.out.1.bs, fun k hk he => ?_⟩
                have h1 := (HO7.out.1.blk k hk).1
                have h2 := HW.out.2.1.lt
                have h3 : W5.heap.size ≤ (W5.alloc (.cells #[.slice a l.length c, .slice a5 p'.length c5] 40)).heap.size := by simp
                omega
              case measure =>
                have h7 := HFIT.out
                have h8 := HMOST.out
                have h6 := HJ.out
                have hw := wrap_step j (by omega)
                exact measure_step n j (by omega) _ _ (by rw [hw]; rfl) rfl
          · have HNX := hid (Dk.next_stuck HP.out (j := j) (by have := HJ.out; omega) (by intro k9 of9 p9 hh; rw [hpj] at hh; cases hh; exact hkk))
            have hB5 := HL.out.1.trans (b5.mono HL.out.1.size)
            have q5 := HL.out.2.1.keep b5
            clear hpj b5 HL hb5 ho5
            by_cases hk : k' = j
            · as_aux_lemma =>
              subst hk
              have hof : ¬ of' = n := fun h => hkk ⟨rfl, h⟩
              have hd1 : ((of' : Int) == (n : Int)) = false := beq_eq_false_iff_ne.2 (by omega)
              have hd2 : ((of' : Int) != (n : Int)) = true := by rw [bne_iff_ne]; omega
              have hd3 : decide ((of' : Int) = (n : Int)) = false := decide_eq_false (by omega)
              have hd4 : decide (of' = n) = false := decide_eq_false hof
              clear hkk hof
              have k0 := q5.cell (o := 0) rfl
              have k1 := q5.cell (o := 1) rfl
              have k2 := q5.cell (o := 2) rfl
              have k3 := q5.cell (o := 3) rfl
              have l0 := q5.free 0
              have l1 := q5.free 1
              have l2 := q5.free 2
              have l3 := q5.free 3
              have bS : Below W.heap.size W ((((W5.setCell ⟨W.heap.size, 0, none⟩ (.int .i64 0)).setCell ⟨W.heap.size, 1, none⟩ (.int .i64 0)).setCell ⟨W.heap.size, 2, none⟩ (.int .i64 0)).setCell ⟨W.heap.size, 3, none⟩ (.slice none 0 0)) :=
                (((hB5.setCell (p := ⟨W.heap.size, 0, none⟩) (by simp) _).setCell (p := ⟨W.heap.size, 1, none⟩) (by simp) _).setCell (p := ⟨W.heap.size, 2, none⟩) (by simp) _).setCell (p := ⟨W.heap.size, 3, none⟩) (by simp) _
              have qF : Blk ((((W5.setCell ⟨W.heap.size, 0, none⟩ (.int .i64 0)).setCell ⟨W.heap.size, 1, none⟩ (.int .i64 0)).setCell ⟨W.heap.size, 2, none⟩ (.int .i64 0)).setCell ⟨W.heap.size, 3, none⟩ (.slice none 0 0)) W.heap.size #[.int .i64 0, .int .i64 0, .int .i64 0, .slice none 0 0] 62 := by
                have := (((q5.set (o := 0) (.int .i64 0)).set (o := 1) (.int .i64 0)).set (o := 2) (.int .i64 0)).set (o := 3) (.slice none 0 0)
                simpa using this
              have HS9 := hid bS
              have HF := hid qF
              clear bS qF
              go_wp2_with fail
              have bS := HS9.out
              have qF := HF.out
              clear HS9 HF
              generalize (((W5.setCell ⟨W.heap.size, 0, none⟩ (.int .i64 0)).setCell ⟨W.heap.size, 1, none⟩ (.int .i64 0)).setCell ⟨W.heap.size, 2, none⟩ (.int .i64 0)).setCell ⟨W.heap.size, 3, none⟩ (.slice none 0 0) = WS at *
              have hld := run_loadVar_row (P := Try.prog) WS W.heap.size 62 62 _ (0, 0) _ qF Try.underlying62 rfl size_entry
              refine bodyPost_ret (v := .tuple #[.agg #[.int .i64 0, .int .i64 0, .int .i64 0, .slice none 0 0], .int .i64 0, .bool false]) ?_ rfl ?_
              · simp [results, Try.results15, hld, asAddr]
              · rw [HNX.out]; exact ⟨rfl, bS⟩
    
            · as_aux_lemma =>
              have hd1 : ((k' : Int) == (j : Int)) = false := beq_eq_false_iff_ne.2 (by omega)
              have hd2 : ((k' : Int) != (j : Int)) = true := by rw [bne_iff_ne]; omega
              have hd3 : decide ((k' : Int) = (j : Int)) = false := decide_eq_false (by omega)
              have hd4 : decide (k' = j) = false := decide_eq_false hk
              clear hkk hk
              have k0 := q5.cell (o := 0) rfl
              have k1 := q5.cell (o := 1) rfl
              have k2 := q5.cell (o := 2) rfl
              have k3 := q5.cell (o := 3) rfl
              have l0 := q5.free 0
              have l1 := q5.free 1
              have l2 := q5.free 2
              have l3 := q5.free 3
              have bS : Below W.heap.size W ((((W5.setCell ⟨W.heap.size, 0, none⟩ (.int .i64 0)).setCell ⟨W.heap.size, 1, none⟩ (.int .i64 0)).setCell ⟨W.heap.size, 2, none⟩ (.int .i64 0)).setCell ⟨W.heap.size, 3, none⟩ (.slice none 0 0)) :=
                (((hB5.setCell (p := ⟨W.heap.size, 0, none⟩) (by simp) _).setCell (p := ⟨W.heap.size, 1, none⟩) (by simp) _).setCell (p := ⟨W.heap.size, 2, none⟩) (by simp) _).setCell (p := ⟨W.heap.size, 3, none⟩) (by simp) _
              have qF : Blk ((((W5.setCell ⟨W.heap.size, 0, none⟩ (.int .i64 0)).setCell ⟨W.heap.size, 1, none⟩ (.int .i64 0)).setCell ⟨W.heap.size, 2, none⟩ (.int .i64 0)).setCell ⟨W.heap.size, 3, none⟩ (.slice none 0 0)) W.heap.size #[.int .i64 0, .int .i64 0, .int .i64 0, .slice none 0 0] 62 := by
                have := (((q5.set (o := 0) (.int .i64 0)).set (o := 1) (.int .i64 0)).set (o := 2) (.int .i64 0)).set (o := 3) (.slice none 0 0)
                simpa using this
              have HS9 := hid bS
              have HF := hid qF
              clear bS qF
              go_wp2_with fail
              have bS := HS9.out
              have qF := HF.out
              clear HS9 HF
              generalize (((W5.setCell ⟨W.heap.size, 0, none⟩ (.int .i64 0)).setCell ⟨W.heap.size, 1, none⟩ (.int .i64 0)).setCell ⟨W.heap.size, 2, none⟩ (.int .i64 0)).setCell ⟨W.heap.size, 3, none⟩ (.slice none 0 0) = WS at *
              have hld := run_loadVar_row (P := Try.prog) WS W.heap.size 62 62 _ (0, 0) _ qF Try.underlying62 rfl size_entry
              refine bodyPost_ret (v := .tuple #[.agg #[.int .i64 0, .int .i64 0, .int .i64 0, .slice none 0 0], .int .i64 0, .bool false]) ?_ rfl ?_
              · simp [results, Try.results15, hld, asAddr]
              · rw [HNX.out]; exact ⟨rfl, bS⟩
    
      · obtain rfl : n = j := by omega
        have hd : decide ((n : Int) < (n : Int)) = false := decide_eq_false (by omega)
        have hgj : D.gather S.num S.fin n n = some l := by
          rcases hga with ⟨h0, _⟩ | ⟨_, hx⟩
          · have := HN1.out; omega
          · exact hx
        have hnx := Dk.next_found HP.out HN1.out (by have := HFIT.out; omega) hgj
        clear hga hgj
        by_cases h13 : l.length < 13
        · as_aux_lemma =>
          have HNX := hid (hnx.trans (if_neg (fun hh => by omega)))
          have hdl : decide ((l.length : Int) < 13) = true := decide_eq_true (by omega)
          clear hnx hSt hBs hOw
          have k0 := hBk.cell (o := 0) rfl
          have k1 := hBk.cell (o := 1) rfl
          have k2 := hBk.cell (o := 2) rfl
          have k3 := hBk.cell (o := 3) rfl
          have l0 := hBk.free 0
          have l1 := hBk.free 1
          have l2 := hBk.free 2
          have l3 := hBk.free 3
          have bS : Below W.heap.size W ((((wr.setCell ⟨W.heap.size, 0, none⟩ (.int .i64 0)).setCell ⟨W.heap.size, 1, none⟩ (.int .i64 0)).setCell ⟨W.heap.size, 2, none⟩ (.int .i64 0)).setCell ⟨W.heap.size, 3, none⟩ (.slice none 0 0)) :=
            (((hB.setCell (p := ⟨W.heap.size, 0, none⟩) (by simp) _).setCell (p := ⟨W.heap.size, 1, none⟩) (by simp) _).setCell (p := ⟨W.heap.size, 2, none⟩) (by simp) _).setCell (p := ⟨W.heap.size, 3, none⟩) (by simp) _
          have qF : Blk ((((wr.setCell ⟨W.heap.size, 0, none⟩ (.int .i64 0)).setCell ⟨W.heap.size, 1, none⟩ (.int .i64 0)).setCell ⟨W.heap.size, 2, none⟩ (.int .i64 0)).setCell ⟨W.heap.size, 3, none⟩ (.slice none 0 0)) W.heap.size #[.int .i64 0, .int .i64 0, .int .i64 0, .slice none 0 0] 62 := by
            have := (((hBk.set (o := 0) (.int .i64 0)).set (o := 1) (.int .i64 0)).set (o := 2) (.int .i64 0)).set (o := 3) (.slice none 0 0)
            simpa using this
          have HS9 := hid bS
          have HF := hid qF
          clear bS qF
          go_wp2_with fail
          have bS := HS9.out
          have qF := HF.out
          clear HS9 HF
          generalize (((wr.setCell ⟨W.heap.size, 0, none⟩ (.int .i64 0)).setCell ⟨W.heap.size, 1, none⟩ (.int .i64 0)).setCell ⟨W.heap.size, 2, none⟩ (.int .i64 0)).setCell ⟨W.heap.size, 3, none⟩ (.slice none 0 0) = WS at *
          have hld := run_loadVar_row (P := Try.prog) WS W.heap.size 62 62 _ (0, 0) _ qF Try.underlying62 rfl size_entry
          refine bodyPost_ret (v := .tuple #[.agg #[.int .i64 0, .int .i64 0, .int .i64 0, .slice none 0 0], .int .i64 0, .bool false]) ?_ rfl ?_
          · simp [results, Try.results15, hld, asAddr]
          · rw [HNX.out]; exact ⟨rfl, bS⟩
    
        · have hdl : decide ((l.length : Int) < 13) = false := decide_eq_false (by omega)
          have hl13 : 13 ≤ l.length := by omega
          rcases hBs.cases with ⟨e9, rfl⟩ | ⟨g, o, cc, e9, hcc, hcm, hcl⟩ | ⟨rfl, _⟩
          · simp at hl13
          rotate_left
          · simp at hl13
          injection e9 with e91 e92 e93
          subst e91 e93
          clear e92
          obtain ⟨u, hu⟩ : ∃ u, l[0]? = some u := ⟨l[0]'(by omega), List.getElem?_eq_getElem (by omega)⟩
          have hcu : wr.cell? ⟨g, o, none⟩ = some (.int .u8 (u.toNat : Int)) := hcl 0 u hu
          have hgd : l.getD 0 0 = u := by rw [List.getD_eq_getElem?_getD, hu]; rfl
          rw [hgd] at hnx
          have hne : ¬ l = [] := by rintro rfl; simp at hl13
          by_cases hu1 : u.toNat < 1
          · as_aux_lemma =>
            have HNX := hid (hnx.trans (if_neg (fun hh => by omega)))
            have hdu : decide ((u.toNat : Int) < 1) = true := decide_eq_true (by omega)
            clear hnx hSt hBs hOw hcl hcm hcc hgd hu
            have k0 := hBk.cell (o := 0) rfl
            have k1 := hBk.cell (o := 1) rfl
            have k2 := hBk.cell (o := 2) rfl
            have k3 := hBk.cell (o := 3) rfl
            have l0 := hBk.free 0
            have l1 := hBk.free 1
            have l2 := hBk.free 2
            have l3 := hBk.free 3
            have bS : Below W.heap.size W ((((wr.setCell ⟨W.heap.size, 0, none⟩ (.int .i64 0)).setCell ⟨W.heap.size, 1, none⟩ (.int .i64 0)).setCell ⟨W.heap.size, 2, none⟩ (.int .i64 0)).setCell ⟨W.heap.size, 3, none⟩ (.slice none 0 0)) :=
              (((hB.setCell (p := ⟨W.heap.size, 0, none⟩) (by simp) _).setCell (p := ⟨W.heap.size, 1, none⟩) (by simp) _).setCell (p := ⟨W.heap.size, 2, none⟩) (by simp) _).setCell (p := ⟨W.heap.size, 3, none⟩) (by simp) _
            have qF : Blk ((((wr.setCell ⟨W.heap.size, 0, none⟩ (.int .i64 0)).setCell ⟨W.heap.size, 1, none⟩ (.int .i64 0)).setCell ⟨W.heap.size, 2, none⟩ (.int .i64 0)).setCell ⟨W.heap.size, 3, none⟩ (.slice none 0 0)) W.heap.size #[.int .i64 0, .int .i64 0, .int .i64 0, .slice none 0 0] 62 := by
              have := (((hBk.set (o := 0) (.int .i64 0)).set (o := 1) (.int .i64 0)).set (o := 2) (.int .i64 0)).set (o := 3) (.slice none 0 0)
              simpa using this
            have HS9 := hid bS
            have HF := hid qF
            clear bS qF
            go_wp2_with fail
            have bS := HS9.out
            have qF := HF.out
            clear HS9 HF
            generalize (((wr.setCell ⟨W.heap.size, 0, none⟩ (.int .i64 0)).setCell ⟨W.heap.size, 1, none⟩ (.int .i64 0)).setCell ⟨W.heap.size, 2, none⟩ (.int .i64 0)).setCell ⟨W.heap.size, 3, none⟩ (.slice none 0 0) = WS at *
            have hld := run_loadVar_row (P := Try.prog) WS W.heap.size 62 62 _ (0, 0) _ qF Try.underlying62 rfl size_entry
            refine bodyPost_ret (v := .tuple #[.agg #[.int .i64 0, .int .i64 0, .int .i64 0, .slice none 0 0], .int .i64 0, .bool false]) ?_ rfl ?_
            · simp [results, Try.results15, hld, asAddr]
            · rw [HNX.out]; exact ⟨rfl, bS⟩
    
          · have hdu : decide ((u.toNat : Int) < 1) = false := decide_eq_false (by omega)
            by_cases hu3 : u.toNat > 3
            · as_aux_lemma =>
              have HNX := hid (hnx.trans (if_neg (fun hh => by omega)))
              have hdv : decide ((u.toNat : Int) > 3) = true := decide_eq_true (by omega)
              clear hnx hSt hBs hOw hcl hcm hcc hgd hu
              have k0 := hBk.cell (o := 0) rfl
              have k1 := hBk.cell (o := 1) rfl
              have k2 := hBk.cell (o := 2) rfl
              have k3 := hBk.cell (o := 3) rfl
              have l0 := hBk.free 0
              have l1 := hBk.free 1
              have l2 := hBk.free 2
              have l3 := hBk.free 3
              have bS : Below W.heap.size W ((((wr.setCell ⟨W.heap.size, 0, none⟩ (.int .i64 0)).setCell ⟨W.heap.size, 1, none⟩ (.int .i64 0)).setCell ⟨W.heap.size, 2, none⟩ (.int .i64 0)).setCell ⟨W.heap.size, 3, none⟩ (.slice none 0 0)) :=
                (((hB.setCell (p := ⟨W.heap.size, 0, none⟩) (by simp) _).setCell (p := ⟨W.heap.size, 1, none⟩) (by simp) _).setCell (p := ⟨W.heap.size, 2, none⟩) (by simp) _).setCell (p := ⟨W.heap.size, 3, none⟩) (by simp) _
              have qF : Blk ((((wr.setCell ⟨W.heap.size, 0, none⟩ (.int .i64 0)).setCell ⟨W.heap.size, 1, none⟩ (.int .i64 0)).setCell ⟨W.heap.size, 2, none⟩ (.int .i64 0)).setCell ⟨W.heap.size, 3, none⟩ (.slice none 0 0)) W.heap.size #[.int .i64 0, .int .i64 0, .int .i64 0, .slice none 0 0] 62 := by
                have := (((hBk.set (o := 0) (.int .i64 0)).set (o := 1) (.int .i64 0)).set (o := 2) (.int .i64 0)).set (o := 3) (.slice none 0 0)
                simpa using this
              have HS9 := hid bS
              have HF := hid qF
              clear bS qF
              go_wp2_with fail
              have bS := HS9.out
              have qF := HF.out
              clear HS9 HF
              generalize (((wr.setCell ⟨W.heap.size, 0, none⟩ (.int .i64 0)).setCell ⟨W.heap.size, 1, none⟩ (.int .i64 0)).setCell ⟨W.heap.size, 2, none⟩ (.int .i64 0)).setCell ⟨W.heap.size, 3, none⟩ (.slice none 0 0) = WS at *
              have hld := run_loadVar_row (P := Try.prog) WS W.heap.size 62 62 _ (0, 0) _ qF Try.underlying62 rfl size_entry
              refine bodyPost_ret (v := .tuple #[.agg #[.int .i64 0, .int .i64 0, .int .i64 0, .slice none 0 0], .int .i64 0, .bool false]) ?_ rfl ?_
              · simp [results, Try.results15, hld, asAddr]
              · rw [HNX.out]; exact ⟨rfl, bS⟩
    
            · as_aux_lemma =>
              have hdv : decide ((u.toNat : Int) > 3) = false := decide_eq_false (by omega)
              have hnx2 := hnx.trans (if_pos ⟨hl13, by omega, by omega⟩)
              obtain ⟨n1, hn1⟩ : ∃ n1, numOf ((l.drop 1).take 6) = n1 := ⟨_, rfl⟩
              obtain ⟨n2, hn2⟩ : ∃ n2, numOf ((l.drop 7).take 6) = n2 := ⟨_, rfl⟩
              rw [hn1, hn2] at hnx2
              have HNM1 := hid hn1
              have HNM2 := hid hn2
              have HNX := hid hnx2
              clear hn1 hn2 hnx2
              have HSL := hid (fun W => run_slice_from (P := Try.prog) Try.underlying40 szu8 (some ⟨g, o, none⟩) l.length c 13 (by omega) (by omega) W)
              have HAL := hid hBs
              have HLEN := hid hl13
              have HC0 := hid hcu
              have HB := hid hB
              have HBK := hid hBk
              have HNE := hid (fun (k : Nat) (hk : (Value.slice (sla (some ⟨g, o, none⟩) c 13) (l.length - 13) (c - 13)).ownBlock = some k) => hOw k (by rw [own_sla] at hk; exact hk))
              clear hnx hSt hBs hOw hcl hcm hcc hgd hB hBk
              go_upto_region 16 with fail
              clear hcu hne hdl hdu hdv
              refine wp_region_stage [5, 7, 12] rfl (fun i => match i with | _ => []) (fun i => match i with | _ => []) (fun sk ts w => match sk with
                  | 0 => Below wr.heap.size wr w
                  | 1 => Below wr.heap.size wr w
                  | 2 => Below wr.heap.size wr w
                  | 3 => Below W.heap.size W w ∧ Blk w W.heap.size #[.int .i64 (u.toNat : Int), .int .i64 (n1 : Int), .int .i64 (n2 : Int), .slice (sla (some ⟨g, o, none⟩) c 13) (l.length - 13) (c - 13)] 62 ∧ Bs w (.slice (sla (some ⟨g, o, none⟩) c 13) (l.length - 13) (c - 13)) (l.drop 13)
                  | _ => False) (fun i ts v => match i with
                  | 0 => v = .slice (some ⟨g, o, none⟩) l.length c
                  | 1 => v = .pointer (some ⟨g, o, none⟩)
                  | 2 => v = .int .u8 (u.toNat : Int)
                  | 3 => v = .int .i64 (u.toNat : Int)
                  | 4 => v = .slice (some ⟨g, o, none⟩) l.length c
                  | 5 => v = .int .i64 (n1 : Int)
                  | 6 => v = .slice (some ⟨g, o, none⟩) l.length c
                  | 7 => v = .int .i64 (n2 : Int)
                  | 8 => v = .slice (some ⟨g, o, none⟩) l.length c
                  | 9 => v = .slice (sla (some ⟨g, o, none⟩) c 13) (l.length - 13) (c - 13)
                  | 10 => v = .agg #[.int .i64 (u.toNat : Int), .int .i64 (n1 : Int), .int .i64 (n2 : Int), .slice (sla (some ⟨g, o, none⟩) c 13) (l.length - 13) (c - 13)]
                  | 11 => v = .int .i64 (n : Int)
                  | 12 => True
                  | 13 => v = .int .i64 (n : Int)
                  | 14 => v = .bool true
                  | _ => True) (by kernel_rfl) (by kernel_rfl) (by kernel_rfl) ((below_of_drewN _ wr 1 : Below wr.heap.size wr wr.drew)) ?rsteps ?rfin
              case rsteps =>
                refine ⟨?_, ?_, ?_, ?_, ?_, ?_, ?_, ?_, ?_, ?_, ?_, ?_, ?_, ?_, ?_, trivial⟩
                · intro sk a x hat hJ hA
                  have t7 := hA.at_ 7 (by first | rfl | kernel_rfl) rfl
                  clear hat hJ
                  refine .inl ⟨rfl, stage_value (w' := x) (v := .slice (some ⟨g, o, none⟩) l.length c) ?_ ⟨_, rfl, rfl, rfl⟩⟩
                  clear hA
                  go_simp
                · intro sk a x hat hJ hA
                  have t99 : a.tmps[99]?.getD undef = .slice (some ⟨g, o, none⟩) l.length c := hA.dep_ ⟨0, .data⟩ (by simp) rfl _ 99 rfl rfl
                  clear hat hJ
                  have hl13 := HLEN.out
                  have hne : ¬ l = [] := by rintro rfl; simp at hl13
                  refine .inl ⟨rfl, stage_value (w' := x) (v := .pointer (some ⟨g, o, none⟩)) ?_ ⟨_, rfl, rfl, rfl⟩⟩
                  clear hA
                  go_simp
                · intro sk a x hat hJ hA
                  have t100 : a.tmps[100]?.getD undef = .pointer (some ⟨g, o, none⟩) := hA.dep_ ⟨1, .data⟩ (by simp) rfl _ 100 rfl rfl
                  match sk, hat, hJ with
                  | 0, hat, hJ =>
                    have g0 : x.cell? ⟨g, o, none⟩ = some (.int .u8 (u.toNat : Int)) := by rw [hJ.cell (World.block_lt_of_cell? wr _ HC0.out)]; exact HC0.out
                    refine .inl ⟨rfl, stage_value (w' := x) (v := .int .u8 (u.toNat : Int)) ?_ ⟨_, rfl, rfl, rfl⟩⟩
                    clear hA hJ
                    go_simp
                  | 1, hat, hJ =>
                    have g0 : x.cell? ⟨g, o, none⟩ = some (.int .u8 (u.toNat : Int)) := by rw [hJ.cell (World.block_lt_of_cell? wr _ HC0.out)]; exact HC0.out
                    refine .inl ⟨rfl, stage_value (w' := x) (v := .int .u8 (u.toNat : Int)) ?_ ⟨_, rfl, rfl, rfl⟩⟩
                    clear hA hJ
                    go_simp
                  | 2, hat, hJ =>
                    have g0 : x.cell? ⟨g, o, none⟩ = some (.int .u8 (u.toNat : Int)) := by rw [hJ.cell (World.block_lt_of_cell? wr _ HC0.out)]; exact HC0.out
                    refine .inl ⟨rfl, stage_value (w' := x) (v := .int .u8 (u.toNat : Int)) ?_ ⟨_, rfl, rfl, rfl⟩⟩
                    clear hA hJ
                    go_simp
                  | 3, hat, _ => exact absurd (hat.symm.trans (by kernel_rfl : atStage _ _ _ _ = false)) (by decide)
                  | sk + 4, _, hJ => exact hJ.elim
                · intro sk a x hat hJ hA
                  have t101 : a.tmps[101]?.getD undef = .int .u8 (u.toNat : Int) := hA.dep_ ⟨2, .data⟩ (by simp) rfl _ 101 rfl rfl
                  clear hat hJ
                  have hu9 := u.toNat_lt
                  have hw : IntKind.i64.wrap (u.toNat : Int) = (u.toNat : Int) := IntWalk.i64_in _ (by omega)
                  clear hu9
                  refine .inl ⟨rfl, stage_value (w' := x) (v := .int .i64 (u.toNat : Int)) ?_ ⟨_, rfl, rfl, rfl⟩⟩
                  clear hA
                  go_simp
                · intro sk a x hat hJ hA
                  have t7 := hA.at_ 7 (by first | rfl | kernel_rfl) rfl
                  clear hat hJ
                  refine .inl ⟨rfl, stage_value (w' := x) (v := .slice (some ⟨g, o, none⟩) l.length c) ?_ ⟨_, rfl, rfl, rfl⟩⟩
                  clear hA
                  go_simp
                · intro a x hJ hA
                  have t103 : a.tmps[103]?.getD undef = .slice (some ⟨g, o, none⟩) l.length c := hA.dep_ ⟨4, .data⟩ (by simp) rfl _ 103 rfl rfl
                  refine ⟨rfl, ?_⟩
                  have hbx := HAL.out.keep hJ
                  have hl13 := HLEN.out
                  refine stage_call (f := 35) (args := #[.slice (some ⟨g, o, none⟩) l.length c, .int .i64 1, .int .i64 6]) (by clear hA hJ hbx hl13; go_simp) ((store_number _ _ 1 6 _ hbx (by omega) (by omega) (by omega) (by omega)).mono ?_)
                  rintro e w' ⟨rfl, hw⟩
                  exact ⟨_, rfl, _, rfl, hJ.trans (hw.mono hJ.size), by rw [show numOf ((l.drop (1 : Int).toNat).take (6 : Int).toNat) = n1 from HNM1.out]; rfl⟩
                · intro sk a x hat hJ hA
                  have t7 := hA.at_ 7 (by first | rfl | kernel_rfl) rfl
                  clear hat hJ
                  refine .inl ⟨rfl, stage_value (w' := x) (v := .slice (some ⟨g, o, none⟩) l.length c) ?_ ⟨_, rfl, rfl, rfl⟩⟩
                  clear hA
                  go_simp
                · intro a x hJ hA
                  have t105 : a.tmps[105]?.getD undef = .slice (some ⟨g, o, none⟩) l.length c := hA.dep_ ⟨6, .data⟩ (by simp) rfl _ 105 rfl rfl
                  refine ⟨rfl, ?_⟩
                  have hbx := HAL.out.keep hJ
                  have hl13 := HLEN.out
                  refine stage_call (f := 35) (args := #[.slice (some ⟨g, o, none⟩) l.length c, .int .i64 7, .int .i64 6]) (by clear hA hJ hbx hl13; go_simp) ((store_number _ _ 7 6 _ hbx (by omega) (by omega) (by omega) (by omega)).mono ?_)
                  rintro e w' ⟨rfl, hw⟩
                  exact ⟨_, rfl, _, rfl, hJ.trans (hw.mono hJ.size), by rw [show numOf ((l.drop (7 : Int).toNat).take (6 : Int).toNat) = n2 from HNM2.out]; rfl⟩
                · intro sk a x hat hJ hA
                  have t7 := hA.at_ 7 (by first | rfl | kernel_rfl) rfl
                  clear hat hJ
                  refine .inl ⟨rfl, stage_value (w' := x) (v := .slice (some ⟨g, o, none⟩) l.length c) ?_ ⟨_, rfl, rfl, rfl⟩⟩
                  clear hA
                  go_simp
                · intro sk a x hat hJ hA
                  have t107 : a.tmps[107]?.getD undef = .slice (some ⟨g, o, none⟩) l.length c := hA.dep_ ⟨8, .data⟩ (by simp) rfl _ 107 rfl rfl
                  clear hat hJ
                  have hsl := HSL.out x
                  refine .inl ⟨rfl, stage_value (w' := x) (v := .slice (sla (some ⟨g, o, none⟩) c 13) (l.length - 13) (c - 13)) ?_ ⟨_, rfl, rfl, rfl⟩⟩
                  clear hA
                  go_simp
                · intro sk a x hat hJ hA
                  have t102 : a.tmps[102]?.getD undef = .int .i64 (u.toNat : Int) := hA.dep_ ⟨3, .data⟩ (by simp) rfl _ 102 rfl rfl
                  have t104 : a.tmps[104]?.getD undef = .int .i64 (n1 : Int) := hA.dep_ ⟨5, .data⟩ (by simp) rfl _ 104 rfl rfl
                  have t106 : a.tmps[106]?.getD undef = .int .i64 (n2 : Int) := hA.dep_ ⟨7, .data⟩ (by simp) rfl _ 106 rfl rfl
                  have t108 : a.tmps[108]?.getD undef = .slice (sla (some ⟨g, o, none⟩) c 13) (l.length - 13) (c - 13) := hA.dep_ ⟨9, .data⟩ (by simp) rfl _ 108 rfl rfl
                  clear hat hJ
                  refine .inl ⟨rfl, stage_value (w' := x) (v := .agg #[.int .i64 (u.toNat : Int), .int .i64 (n1 : Int), .int .i64 (n2 : Int), .slice (sla (some ⟨g, o, none⟩) c 13) (l.length - 13) (c - 13)]) ?_ ⟨_, rfl, rfl, rfl⟩⟩
                  clear hA
                  go_simp
                · intro sk a x hat hJ hA
                  have t3 := hA.at_ 3 (by first | rfl | kernel_rfl) rfl
                  clear hat hJ
                  refine .inl ⟨rfl, stage_value (w' := x) (v := .int .i64 (n : Int)) ?_ ⟨_, rfl, rfl, rfl⟩⟩
                  clear hA
                  go_simp
                · intro a x hJ hA
                  have t2 := hA.at_ 2 (by first | rfl | kernel_rfl) rfl
                  have t109 : a.tmps[109]?.getD undef = .agg #[.int .i64 (u.toNat : Int), .int .i64 (n1 : Int), .int .i64 (n2 : Int), .slice (sla (some ⟨g, o, none⟩) c 13) (l.length - 13) (c - 13)] := hA.dep_ ⟨10, .data⟩ (by simp) rfl _ 109 rfl rfl
                  refine ⟨rfl, ?_⟩
                  have hq := HBK.out.keep hJ
                  have hxr := (Ext.refl (fun b => b = W.heap.size) x).grown (setRow_grown x W.heap.size #[.int .i64 (u.toNat : Int), .int .i64 (n1 : Int), .int .i64 (n2 : Int), .slice (sla (some ⟨g, o, none⟩) c 13) (l.length - 13) (c - 13)]) (fun k hk => by cases hk; exact .inl rfl)
                  refine wp_store_row 62 (.tmp 2) (.tmp 109) rfl W.heap.size #[.int .i64 (u.toNat : Int), .int .i64 (n1 : Int), .int .i64 (n2 : Int), .slice (sla (some ⟨g, o, none⟩) c 13) (l.length - 13) (c - 13)] (by simpa [go_sem] using t2) (by simpa [go_sem] using t109) 62 _ hq size_entry rfl (by rw [Array.all_eq_true_iff_forall_mem]; intro v hv; simp only [List.mem_toArray, List.mem_cons, List.not_mem_nil, or_false] at hv; rcases hv with rfl | rfl | rfl | rfl <;> rfl) ⟨undef, rfl, ⟨?_, hq.setRow _, ?_⟩, trivial⟩
                  · have hbW := HB.out.trans (hJ.mono HB.out.size)
                    exact hbW.grown (setRow_grown _ _ _) hbW.size (fun k h => by cases h; exact Nat.le_refl _)
                  · exact (bs_from (HAL.out.keep hJ) 13 HLEN.out).ext hxr (fun k hk hkl he => HNE.out k hk he)
                · intro sk a x hat hJ hA
                  have t110 : a.tmps[110]?.getD undef = .int .i64 (n : Int) := hA.dep_ ⟨11, .data⟩ (by simp) rfl _ 110 rfl rfl
                  clear hat hJ
                  refine .inl ⟨rfl, stage_value (w' := x) (v := .int .i64 (n : Int)) ?_ ⟨_, rfl, rfl, rfl⟩⟩
                  clear hA
                  go_simp
                · intro sk a x hat hJ hA
                  clear hat hJ
                  refine .inl ⟨rfl, stage_value (w' := x) (v := .bool true) ?_ ⟨_, rfl, rfl, rfl⟩⟩
                  clear hA
                  go_simp
              case rfin =>
                intro y W' hJ hV
                obtain ⟨bS, qF, hsl⟩ := hJ
                simp only [AllVals] at hV
                obtain ⟨-, -, -, -, -, -, -, -, -, -, -, -, -, u13, u14, -⟩ := hV
                simp only [putAll, Act.put, List.setIfInBounds_toArray, List.set_cons_zero, List.set_cons_succ]
                rw [u13, u14]
                clear u13 u14
                have hld := run_loadVar_row (P := Try.prog) W' W.heap.size 62 62 _ (0, 0) _ qF Try.underlying62 rfl size_entry
                have HF := hid (And.intro bS (And.intro hsl hld))
                clear bS qF hsl hld
                go_wp2_with fail
                obtain ⟨bS, hsl, hld⟩ := HF.out
                refine bodyPost_ret (v := .tuple #[.agg #[.int .i64 (u.toNat : Int), .int .i64 (n1 : Int), .int .i64 (n2 : Int), .slice (sla (some ⟨g, o, none⟩) c 13) (l.length - 13) (c - 13)], .int .i64 (n : Int), .bool true]) ?_ rfl ?_
                · simp [results, Try.results15, hld, asAddr]
                · rw [HNX.out]; exact ⟨_, rfl, hsl, bS⟩

theorem store_next (h : StAt W q S D) (hoff : D.off = false) (hlt : S.fin < D.texts.length) (hvs : ∀ i, D.vers i = none) :
    Calls Try.prog 15 #[.pointer (some ⟨q.s, 0, none⟩)] W (NextPost W (D.next S.num S.fin)) := by
  cases hp : D.part S.num S.fin with
  | none =>
    rw [Dk.next_none hp]
    exact store_next_first h hoff hlt (hvs _) hp
  | some r =>
    obtain ⟨k, n, x⟩ := r
    by_cases hn : n < 1
    · have hnx : D.next S.num S.fin = none := by
        unfold Dk.next
        rw [hp]
        simp only
        rw [if_pos (.inl hn)]
      rw [hnx]
      exact store_next_empty h hoff hlt (hvs _) k n x hp hn
    · by_cases hb : D.texts.length - S.fin < n
      · have hnx : D.next S.num S.fin = none := by
          unfold Dk.next
          rw [hp]
          simp only
          rw [if_pos (.inr hb)]
        rw [hnx]
        exact store_next_big h hoff hlt (hvs _) k n x hp (by omega) hb
      · exact store_next_go h hoff hlt hvs k n x hp (by omega) (by omega)
end
end Go.Proofs.Ytpkaepmmkojdaaa
