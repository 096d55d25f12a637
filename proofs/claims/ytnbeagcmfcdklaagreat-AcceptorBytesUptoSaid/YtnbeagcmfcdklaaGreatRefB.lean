import Derived.Test.YtnbeagcmfcdklaaGreatMRefA
import Derived.Test.YtnbeagcmfcdklaaGreatRegionW
import Derived.Test.YtnbeagcmfcdklaaGreatMGen
/-! The document's answer for wire: Frame, Unframe. -/
namespace Go.Proofs.YtnbeagcmfcdklaaGreat
open Go.RowKit

set_option maxRecDepth 100000 in
set_option maxHeartbeats 800000 in
theorem ref_Frame (kind : Int) (v : Value) (l : List UInt8) (w : World) (h0 : 0 ≤ kind) (h1 : kind ≤ 255) (hv : Bs w v l) (hl : l.length ≤ 65536) :
    Calls Tryz.prog 40 #[.int .i64 kind, v] w fun e w' => ∃ v', e = .returned (.tuple #[v', .int .i64 0]) ∧ Own8 w' w.heap.size 5 v' (frameB kind l) ∧ Below w.heap.size w w' := by
  obtain ⟨a, c, rfl⟩ := hv.form
  obtain ⟨i0, hi, hz0, hz1, hz2⟩ := info_parts info_u8
  have hl' : (l.length : Int) ≤ 65536 := by omega
  have hb1 : Below w.heap.size w (w.alloc (.cells #[.int .u8 kind] 5)) := (Below.refl _ w).alloc (Nat.le_refl _) _
  have o1 : Own8 (w.alloc (.cells #[.int .u8 kind] 5)) w.heap.size 5 (.slice (some ⟨w.heap.size, 0, none⟩) 1 1) [byteOf kind 0] := own8_mk (Nat.le_refl _) (Blk.new _ _ _) rfl (Nat.le_refl _) (by unfold maxLen; omega) rfl (fun i u h => by
    match i, h with
    | 0, h => simp at h; subst h; simp [byteOf_val]; omega)
  have HV := hid hv
  clear hv
  have HH := hid (And.intro hb1 o1)
  clear hb1 o1
  go_enter Tryz.func40, Tryz.ntmps40
  go_wp2_with fail
  generalize w.alloc (.cells #[.int .u8 kind] 5) = W1 at *
  refine (ref_Bytes (l.length : Int) 4 W1 (by omega) (by omega)).mono ?_
  rintro e W2 ⟨v2, rfl, o2, b2⟩
  have hb2 := HH.out.1.trans (b2.mono HH.out.1.size)
  have o1 := HH.out.2.keep b2
  have s2 := o2.bs
  have hln := lowB_length (l.length : Int) 4
  clear HH o2 b2
  go_wp2_with (first | (at_builtin; refine wpList_append8 Tryz.underlying22 hi hz0 hz1 hz2 rfl _ _ rfl w.heap.size rfl rfl o1 s2 (by simp; omega) hb2.size ?_; intro v3 W3 o3 g3 _; have hb3 := hb2.grown g3 hb2.size (fun k hk => (o1.blk k hk).1); have hv3 := HV.out.keep hb3; clear hb2 o1 s2 g3) | (at_builtin; refine wpList_append8 Tryz.underlying22 hi hz0 hz1 hz2 rfl _ _ rfl w.heap.size rfl rfl o3 hv3 (by simp; omega) hb3.size ?_; intro v4 W4 o4 g4 _))
  have hb4 := hb3.grown g4 hb3.size (fun k hk => (o3.blk k hk).1)
  have hF : ([byteOf kind 0] ++ lowB (l.length : Int) 4) ++ l = frameH kind l := by simp [frameH]
  rw [hF] at o4
  have hFl : (frameH kind l).length ≤ l.length + 5 := by simp [frameH, lowB_length]; omega
  clear hb3 o3 hv3 g4 hF
  go_wp2_with fail
  refine (ref_Crc _ _ W4 o4.bs (by omega)).mono ?_
  rintro e W5 ⟨rfl, rfl⟩
  have hcl := crcOf_lt (frameH kind l)
  generalize hcr : crcOf (frameH kind l) = cr at *
  have Hcr := hid hcr
  clear hcr
  generalize hfh : frameH kind l = fh at *
  have Hfh := hid hfh
  clear hfh
  go_wp2_with fail
  refine (ref_Bytes (cr : Int) 4 W5 (by omega) (by omega)).mono ?_
  rintro e W6 ⟨v6, rfl, o6, b6⟩
  have hb6 := hb4.trans (b6.mono hb4.size)
  have o5 := o4.keep b6
  have s6 := o6.bs
  have hln6 := lowB_length (cr : Int) 4
  clear hb4 o4 o6 b6
  go_wp2_with (at_builtin; refine wpList_append8 Tryz.underlying22 hi hz0 hz1 hz2 rfl _ _ rfl w.heap.size rfl rfl o5 s6 (by omega) hb6.size ?_; intro v7 W7 o7 g7 _)
  have hb7 := hb6.grown g7 hb6.size (fun k hk => (o5.blk k hk).1)
  go_wp2_with fail
  go_ret2
  refine ⟨v7, rfl, ?_, hb7⟩
  unfold frameB
  rw [Hfh.out, Hcr.out]
  exact o7

set_option maxRecDepth 100000 in
set_option maxHeartbeats 1600000 in
theorem ref_Unframe (v : Value) (l : List UInt8) (w : World) (hv : Bs w v l) (hl : l.length ≤ 1073741824) :
    Calls Tryz.prog 73 #[v, .int .i64 0] w (UnfPost w l) := by
  obtain ⟨a, c, rfl, hc, hm, ha, hsp, hr⟩ := id hv
  have hmx := hm
  unfold maxLen at hmx
  have hl0 : decide ((l.length : Int) < 0) = false := by simp
  have HV := hid hv
  clear hv
  by_cases h5 : l.length < 5
  · have hl5 : decide ((l.length : Int) < 5) = true := by simp; omega
    clear hr
    go_enter Tryz.func73, Tryz.ntmps73
    go_wp2_with fail
    refine bodyPost_ret (v := .tuple #[.int .i64 0, .slice none 0 0, .int .i64 0, .int .i64 20]) (by simp [results, Tryz.results73, go_sem]) rfl ?_
    unfold UnfPost unframe
    rw [if_pos h5]
    exact ⟨20, by decide, rfl, Below.refl _ _⟩
  · have hl5 : decide ((l.length : Int) < 5) = false := by simp; omega
    have hne : l ≠ [] := by rintro rfl; simp at h5
    obtain ⟨u0, hu0⟩ : ∃ u, l[0]? = some u := ⟨l[0]'(by omega), by simp⟩
    obtain ⟨ad, rfl, hcell⟩ := hr 0 u0 hu0
    obtain ⟨g, o, s⟩ := ad
    obtain rfl := hsp _ rfl
    have hcell : w.cell? ⟨g, o, none⟩ = some (bv u0) := by simpa using hcell
    have HC := hid (And.intro hu0 hcell)
    clear hr hu0 hcell hsp ha
    go_enter Tryz.func73, Tryz.ntmps73
    go_wp2_with fail
    refine (ref_Get _ l 1 4 w HV.out (by omega) (by omega) (by omega)).mono ?_
    rintro e Wx ⟨rfl, hw⟩
    rw [hw]
    clear hw Wx
    have hnl := numOf_lt ((l.drop 1).take 4)
    generalize hn : numOf ((l.drop 1).take 4) = n at *
    have Hn := hid hn
    clear hn
    by_cases hbig : 65536 < n
    · go_wp2_with fail
      refine bodyPost_ret (v := .tuple #[.int .i64 0, .slice none 0 0, .int .i64 0, .int .i64 22]) (by simp [results, Tryz.results73, go_sem]) rfl ?_
      unfold UnfPost unframe
      rw [if_neg h5, Hn.out, if_pos (.inl hbig)]
      exact ⟨22, by decide, rfl, Below.refl _ _⟩
    · have hn6 : (n : Int) ≤ 65536 := by omega
      by_cases hsh : l.length < 9 + n
      · have hs1 : (l.length : Int) - 5 < (n : Int) + 4 := by omega
        go_wp2_with fail
        refine bodyPost_ret (v := .tuple #[.int .i64 0, .slice none 0 0, .int .i64 0, .int .i64 20]) (by simp [results, Tryz.results73, go_sem]) rfl ?_
        unfold UnfPost unframe
        rw [if_neg h5, Hn.out, if_pos (.inr hsh)]
        exact ⟨20, by decide, rfl, Below.refl _ _⟩
      · have hs1 : ¬ (l.length : Int) - 5 < (n : Int) + 4 := by omega
        go_wp2_with fail
        rw [show (5 : Int) + (n : Int) = ((5 + n : Nat) : Int) from by omega]
        refine (ref_Get _ l (5 + n) 4 w HV.out (by omega) (by omega) (by omega)).mono ?_
        rintro e Wx ⟨rfl, hw⟩
        rw [hw]
        clear hw Wx
        have hsl : ∀ W, (Instr.slice 22 (.slice (some ⟨g, o, none⟩) l.length c) (some (.int .i64 0)) (some (.int .i64 ((5 : Int) + (n : Int)))) none).run Tryz.prog W = .ok (.slice (sla (some ⟨g, o, none⟩) c 0) (5 + n) c) W := fun W => by
          have := run_slice_b Tryz.underlying22 szu8 (some ⟨g, o, none⟩) l.length c 0 ((5 : Int) + (n : Int)) (by omega) (by omega) (by omega) W
          rw [this, show ((5 : Int) + (n : Int)).toNat = 5 + n from by omega]
          rfl
        have s8 : Bs w (.slice (sla (some ⟨g, o, none⟩) c 0) (5 + n) c) (l.take (5 + n)) := HV.out.slice (lo := 0) (hi := 5 + n) (by omega) (by omega)
        generalize hsm : numOf (List.take 4 (List.drop (5 + n) l)) = sm at *
        have Hsm := hid hsm
        have hsml : sm < 4294967296 := by rw [← hsm]; have := numOf_lt (List.take 4 (List.drop (5 + n) l)); have h4 : (List.take 4 (List.drop (5 + n) l)).length ≤ 4 := by simp; omega
                                          exact Nat.lt_of_lt_of_le this (show 2 ^ (8 * _) ≤ 2 ^ 32 from Nat.pow_le_pow_right (by decide) (by omega))
        clear hsm
        go_wp2_with fail
        refine (ref_Crc _ _ w s8 (by simp; omega)).mono ?_
        rintro e Wx ⟨rfl, hw⟩
        rw [hw]
        clear hw Wx
        have hcl := crcOf_lt (l.take (5 + n))
        generalize hcr : crcOf (l.take (5 + n)) = cr at *
        have Hcr := hid hcr
        clear hcr s8 hsl
        by_cases hne2 : sm = cr
        · have hq : ((cr : Int) != (sm : Int)) = false := by simp [hne2]
          have Heq := hid hne2
          clear hne2
          go_wp2_with fail
          have hs5 := HV.out.slice (lo := 5) (hi := 5 + n) (by omega) (by omega)
          rw [show 5 + n - 5 = n from by omega] at hs5
          have HS := hid hs5
          have HSL := hid (fun (W : World) => run_slice_b (P := Tryz.prog) Tryz.underlying22 szu8 (some ⟨g, o, none⟩) l.length c (5 : Int) ((5 : Int) + (n : Int)) (by omega) (by omega) (by omega) W)
          have hnb : n ≤ 65536 := by omega
          have hlb : 9 + n ≤ l.length := by omega
          clear hs5 hq hbig hsh hs1
          refine wp_region_invW rfl Grows (fun i v x => match i with
              | 0 => v = .slice (some ⟨g, o, none⟩) l.length c
              | 1 => v = .int .i64 0
              | 2 => v = .pointer (some ⟨g, o, none⟩)
              | 3 => v = .int .u8 (u0.toNat : Int)
              | 4 => v = .int .i64 (u0.toNat : Int)
              | 5 => ∃ g, v = .slice (some ⟨g, 0, none⟩) 0 0 ∧ Own8 x w.heap.size 5 (.slice (some ⟨g, 0, none⟩) 0 0) []
              | 6 => v = .slice (some ⟨g, o, none⟩) l.length c
              | 7 => v = .int .i64 5
              | 8 => v = .int .i64 5
              | 9 => v = .int .i64 (n : Int)
              | 10 => v = .int .i64 ((5 : Int) + (n : Int))
              | 11 => v = .slice (sla (some ⟨g, o, none⟩) c 5) n (c - 5)
              | 12 => Own8 x w.heap.size 5 v ((l.drop 5).take n)
              | 13 => v = .int .i64 (((5 + n : Nat) : Int) + ((4 : Nat) : Int))
              | 14 => v = .int .i64 (u0.toNat : Int)
              | 15 => Own8 x w.heap.size 5 v ((l.drop 5).take n)
              | 16 => v = .int .i64 (((5 + n : Nat) : Int) + ((4 : Nat) : Int))
              | 17 => v = .int .i64 0
              | _ => True) (by kernel_rfl) (Grows.refl _) Grows.trans ?rstab ?rsteps ?rfin
          case rstab =>
            intro i v x y hg h
            match i with
            | 0 | 1 | 2 | 3 | 4 | 6 | 7 | 8 | 9 | 10 | 11 | 13 | 14 | 16 | 17 => exact h
            | 5 => exact (by obtain ⟨g9, e9, h9⟩ := h; exact ⟨g9, e9, h9.keep hg⟩)
            | 12 => exact Own8.keep h hg
            | 15 => exact Own8.keep h hg
            | n + 18 => trivial
          case rsteps =>
            refine ⟨?_, ?_, ?_, ?_, ?_, ?_, ?_, ?_, ?_, ?_, ?_, ?_, ?_, ?_, ?_, ?_, ?_, ?_, trivial⟩
            · intro a x hA
              have t0 := hA.at_ 0 (by rfl) rfl
              refine step_value (w' := x) (v := .slice (some ⟨g, o, none⟩) l.length c) ?_ (Grows.refl _) ?_
              · go_simp
              · rfl
            · intro a x hA
              have t1 := hA.at_ 1 (by rfl) rfl
              refine step_value (w' := x) (v := .int .i64 0) ?_ (Grows.refl _) ?_
              · go_simp
              · rfl
            · intro a x hA
              have t63 : a.tmps[63]?.getD undef = .slice (some ⟨g, o, none⟩) l.length c := hA.dep_ ⟨0, .data⟩ (by simp) _ 63 rfl rfl
              have t64 : a.tmps[64]?.getD undef = .int .i64 0 := hA.dep_ ⟨1, .data⟩ (by simp) _ 64 rfl rfl
              have hlx := hlb
              refine step_value (w' := x) (v := .pointer (some ⟨g, o, none⟩)) ?_ (Grows.refl _) rfl
              go_simp
            · intro a x hA
              have t65 : a.tmps[65]?.getD undef = .pointer (some ⟨g, o, none⟩) := hA.dep_ ⟨2, .data⟩ (by simp) _ 65 rfl rfl
              have g0 : x.cell? ⟨g, o, none⟩ = some (.int .u8 (u0.toNat : Int)) := by rw [hA.grown.cell (World.block_lt_of_cell? w _ HC.out.2)]; exact HC.out.2
              refine step_value (w' := x) (v := .int .u8 (u0.toNat : Int)) ?_ (Grows.refl _) rfl
              go_simp
            · intro a x hA
              have t66 : a.tmps[66]?.getD undef = .int .u8 (u0.toNat : Int) := hA.dep_ ⟨3, .data⟩ (by simp) _ 66 rfl rfl
              have hu := u0.toNat_lt
              have hw : IntKind.i64.wrap (u0.toNat : Int) = (u0.toNat : Int) := IntWalk.i64_in _ (by omega)
              refine step_value (w' := x) (v := .int .i64 (u0.toNat : Int)) ?_ (Grows.refl _) rfl
              go_simp
            · intro a x hA
              have hsx : w.heap.size ≤ x.heap.size := hA.grow.size
              refine step_value (w' := x.alloc (.cells #[] 5)) (v := .slice (some ⟨x.heap.size, 0, none⟩) 0 0) (by go_simp) (Grows.alloc _ _) ?_
              exact ⟨_, rfl, own8_mk hsx (Blk.new x _ _) rfl (Nat.le_refl _) (by simp [maxLen]) rfl (by simp)⟩
            · intro a x hA
              have t0 := hA.at_ 0 (by rfl) rfl
              refine step_value (w' := x) (v := .slice (some ⟨g, o, none⟩) l.length c) ?_ (Grows.refl _) ?_
              · go_simp
              · rfl
            · intro a x hA
              have t9 := hA.at_ 9 (by rfl) rfl
              refine step_value (w' := x) (v := .int .i64 5) ?_ (Grows.refl _) ?_
              · go_simp
              · rfl
            · intro a x hA
              have t9 := hA.at_ 9 (by rfl) rfl
              refine step_value (w' := x) (v := .int .i64 5) ?_ (Grows.refl _) ?_
              · go_simp
              · rfl
            · intro a x hA
              have t8 := hA.at_ 8 (by rfl) rfl
              refine step_value (w' := x) (v := .int .i64 (n : Int)) ?_ (Grows.refl _) ?_
              · go_simp
              · rfl
            · intro a x hA
              have t71 : a.tmps[71]?.getD undef = .int .i64 5 := hA.dep_ ⟨8, .data⟩ (by simp) _ 71 rfl rfl
              have t72 : a.tmps[72]?.getD undef = .int .i64 (n : Int) := hA.dep_ ⟨9, .data⟩ (by simp) _ 72 rfl rfl
              have hw : IntKind.i64.wrap ((5 : Int) + (n : Int)) = (5 : Int) + (n : Int) := IntWalk.i64_in _ (by omega)
              refine step_value (w' := x) (v := .int .i64 ((5 : Int) + (n : Int))) ?_ (Grows.refl _) rfl
              go_simp
            · intro a x hA
              have t69 : a.tmps[69]?.getD undef = .slice (some ⟨g, o, none⟩) l.length c := hA.dep_ ⟨6, .data⟩ (by simp) _ 69 rfl rfl
              have t70 : a.tmps[70]?.getD undef = .int .i64 5 := hA.dep_ ⟨7, .data⟩ (by simp) _ 70 rfl rfl
              have t73 : a.tmps[73]?.getD undef = .int .i64 ((5 : Int) + (n : Int)) := hA.dep_ ⟨10, .data⟩ (by simp) _ 73 rfl rfl
              have hsl := HSL.out x
              rw [show ((5 : Int) + (n : Int)).toNat - (5 : Int).toNat = n from by omega, show (5 : Int).toNat = 5 from rfl] at hsl
              refine step_value (w' := x) (v := .slice (sla (some ⟨g, o, none⟩) c 5) n (c - 5)) ?_ (Grows.refl _) rfl
              go_simp
            · intro a x hA
              have t68 : ∃ g, (a.tmps[68]?.getD undef) = .slice (some ⟨g, 0, none⟩) 0 0 ∧ Own8 x w.heap.size 5 (.slice (some ⟨g, 0, none⟩) 0 0) [] := hA.dep_ ⟨5, .data⟩ (by simp) _ 68 rfl rfl
              have t74 : a.tmps[74]?.getD undef = .slice (sla (some ⟨g, o, none⟩) c 5) n (c - 5) := hA.dep_ ⟨11, .data⟩ (by simp) _ 74 rfl rfl
              obtain ⟨g1, e9, ho9⟩ := t68
              obtain ⟨i0, hi, hz0, hz1, hz2⟩ := info_parts info_u8
              have hsx : w.heap.size ≤ x.heap.size := hA.grow.size
              have hvx := HS.out.keep hA.grown
              obtain ⟨v', w', hr, q1, q2⟩ := run_append_empty (P := Tryz.prog) Tryz.underlying22 hi hz0 hz1 hz2 22 ho9 (.inl hvx) (by simp; omega) hsx
              refine step_value (w' := w') (v := v') (exec_append rfl (by
                have e1 : a.eval (.tmp 68) = .slice (some ⟨g1, 0, none⟩) 0 0 := by simp [go_sem, e9]
                have e2 : a.eval (.tmp 74) = .slice (sla (some ⟨g, o, none⟩) c 5) n (c - 5) := by simp [go_sem, t74]
                rw [e1, e2]; exact hr)) q2 ?_
              exact q1
            · intro a x hA
              have t12 := hA.at_ 12 (by rfl) rfl
              refine step_value (w' := x) (v := .int .i64 (((5 + n : Nat) : Int) + ((4 : Nat) : Int))) ?_ (Grows.refl _) ?_
              · go_simp
              · rfl
            · intro a x hA
              have t67 : a.tmps[67]?.getD undef = .int .i64 (u0.toNat : Int) := hA.dep_ ⟨4, .data⟩ (by simp) _ 67 rfl rfl
              refine step_value (w' := x) (v := .int .i64 (u0.toNat : Int)) ?_ (Grows.refl _) ?_
              · go_simp
              · rfl
            · intro a x hA
              have t75 : Own8 x w.heap.size 5 (a.tmps[75]?.getD undef) ((l.drop 5).take n) := hA.dep_ ⟨12, .data⟩ (by simp) _ 75 rfl rfl
              exact step_value (w' := x) (v := a.tmps[75]?.getD undef) (by go_simp) (Grows.refl _) t75
            · intro a x hA
              have t76 : a.tmps[76]?.getD undef = .int .i64 (((5 + n : Nat) : Int) + ((4 : Nat) : Int)) := hA.dep_ ⟨13, .data⟩ (by simp) _ 76 rfl rfl
              refine step_value (w' := x) (v := .int .i64 (((5 + n : Nat) : Int) + ((4 : Nat) : Int))) ?_ (Grows.refl _) ?_
              · go_simp
              · rfl
            · intro a x hA
              refine step_value (w' := x) (v := .int .i64 0) ?_ (Grows.refl _) ?_
              · go_simp
              · rfl
          case rfin =>
            intro y W' hg hV
            simp only [AllVals] at hV
            obtain ⟨_, _, _, _, _, _, _, _, _, _, _, _, _, _, u14, u15, u16, u17, _⟩ := hV
            simp only [putAll, Act.put, List.setIfInBounds_toArray, List.set_cons_zero, List.set_cons_succ]
            have bdW : Below w.heap.size w W' := (below_of_drewN _ w 1).trans hg
            clear hg
            rw [u14, u16, u17]
            clear u14 u16 u17
            generalize y 5 = v5 at *
            go_wp2_with fail
            refine bodyPost_ret (v := .tuple #[.int .i64 (u0.toNat : Int), v5, .int .i64 (((5 + n : Nat) : Int) + ((4 : Nat) : Int)), .int .i64 0]) (by simp [results, Tryz.results73, go_sem]) rfl ?_
            unfold UnfPost unframe
            rw [if_neg h5, Hn.out, if_neg (by omega), Hsm.out, Hcr.out, if_neg (by simpa using Heq.out)]
            refine ⟨v5, ?_, u15, bdW⟩
            have hk : numOf (l.take 1) = u0.toNat := by
              have := HC.out.1
              cases l with
              | nil => simp at this
              | cons z zs => simp at this; subst this; simp [numOf]
            rw [hk, show 9 + n = 5 + n + 4 from by omega]
            simp
        · have hq : ((cr : Int) != (sm : Int)) = true := by simp; omega
          have Hne := hid (show sm ≠ cr from hne2)
          clear hne2
          go_wp2_with fail
          refine bodyPost_ret (v := .tuple #[.int .i64 0, .slice none 0 0, .int .i64 0, .int .i64 21]) (by simp [results, Tryz.results73, go_sem]) rfl ?_
          unfold UnfPost unframe
          rw [if_neg h5, Hn.out, if_neg (by omega), Hsm.out, Hcr.out, if_pos Hne.out]
          exact ⟨21, by decide, rfl, Below.refl _ _⟩
end Go.Proofs.YtnbeagcmfcdklaaGreat
