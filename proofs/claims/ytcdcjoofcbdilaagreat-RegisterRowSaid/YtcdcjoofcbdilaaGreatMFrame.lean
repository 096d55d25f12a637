import Derived.Test.YtcdcjoofcbdilaaGreatMRegionC
import Derived.Test.YtcdcjoofcbdilaaGreatMWire
import Derived.Test.YtcdcjoofcbdilaaGreatMSlices
import Derived.OwnWalkIn
import Derived.TacticsInMore
import Derived.LoopNIn
import Derived.LoopIn
/-! The iterator of slices.Chunk at bytes, by 240. -/
namespace Go.Proofs.YtcdcjoofcbdilaaGreat
open Go.RowKit
attribute [local go_sem] Oper.semAt_some

/-- The world stays. -/
def Stays (x y : World) : Prop := y = x
theorem Stays.refl (w : World) : Stays w w := rfl
theorem Stays.trans {x y z : World} (h : Stays x y) (k : Stays y z) : Stays x z := Eq.trans k h

def chunkOf (l : List UInt8) (k : Nat) : List UInt8 := (l.drop (240 * k)).take 240
def chunks (l : List UInt8) : Nat := (l.length + 239) / 240
theorem chunkOf_length (l : List UInt8) (k : Nat) : (chunkOf l k).length = min 240 (l.length - 240 * k) := by simp [chunkOf]

def ChunkY (l : List UInt8) (ob : Option Nat) (k : Nat) (W : World) (args : Array Value) : Prop := ∃ v, args = #[v] ∧ Bs W v (chunkOf l k) ∧ ∀ g, v.ownBlock = some g → ob = some g

theorem run_slice_3 {P : Program} {T E : TypeId} (hT : P.underlying T = some (.slice E)) (hE : (P.info? E).map (·.size) = some 1) (a : Option Addr) (n c : Nat) (lo hi : Int) (h0 : 0 ≤ lo) (h1 : lo ≤ hi) (h2 : hi ≤ c) (W : World) :
    (Instr.slice T (.slice a n c) (some (.int .i64 lo)) (some (.int .i64 hi)) (some (.int .i64 hi))).run P W = .ok (.slice (sla a hi.toNat lo.toNat) (hi.toNat - lo.toNat) (hi.toNat - lo.toNat)) W := by
  have hs : (sizeOf E).run P W = .ok 1 W := by
    cases hq : P.info? E with
    | none => simp [hq] at hE
    | some i =>
      simp [hq] at hE
      simp [sizeOf, typeInfo, hq, hE]
  have e1 : ∀ (code : BoundsCode), (Instr.sliceBound (.int .i64 hi) c code).run P W = .ok hi.toNat W := fun code => run_sliceBound (P := P) (w := W) .i64 hi c code (by omega) h2
  have e1' : ∀ (code : BoundsCode), (Instr.sliceBound (.int .i64 hi) hi.toNat code).run P W = .ok hi.toNat W := fun code => run_sliceBound (P := P) (w := W) .i64 hi hi.toNat code (by omega) (by omega)
  have e2 : ∀ (code : BoundsCode), (Instr.sliceBound (.int .i64 lo) hi.toNat code).run P W = .ok lo.toNat W := fun code => run_sliceBound (P := P) (w := W) .i64 lo hi.toNat code h0 (by omega)
  simp [Instr.slice, Instr.sliceBounds, run_underlying hT, e1, e1', e2, hs, sla, Sem.run_bind]

theorem ownBlock_sla {a : Option Addr} {c lo n n' c' c'' g : Nat} (h : (Value.slice (sla a c lo) n c').ownBlock = some g) : (Value.slice a n' c'').ownBlock = some g := by
  unfold sla at h
  split at h
  · cases a <;> exact h
  · cases a with
    | none => exact h
    | some ad =>
      have e : (ad.add lo).block = ad.block := by unfold Addr.add; split <;> rfl
      simp only [Option.map_some, Value.ownBlock] at h ⊢
      rw [← h]
      first | rfl | simp [e]
theorem Bs.trim {w : World} {a : Option Addr} {n c hi : Nat} {l : List UInt8} (h : Bs w (.slice a n c) l) (h2 : hi ≤ n) : Bs w (.slice a hi hi) (l.take hi) := by
  obtain ⟨a', c', e, hc, hm, h0, hs, hr⟩ := h
  injection e with e1 e2 e3
  subst e1 e2 e3
  have hlen : (l.take hi).length = hi := by simp; omega
  refine ⟨a, hi, by rw [hlen], by omega, by omega, fun hn => ?_, fun ad hd hcn => hs ad hd (by omega), fun i u hi' => ?_⟩
  · have := h0 hn
    omega
  · rw [List.getElem?_take] at hi'
    split at hi'
    · exact hr i u hi'
    · cases hi'
theorem Bs.slice3 {w : World} {a : Option Addr} {n c lo hi : Nat} {l : List UInt8} (h : Bs w (.slice a n c) l) (h1 : lo ≤ hi) (h2 : hi ≤ n) : Bs w (.slice (sla a hi lo) (hi - lo) (hi - lo)) ((l.drop lo).take (hi - lo)) := by
  have h3 := (h.trim h2).slice h1 (Nat.le_refl _)
  rw [List.drop_take, List.take_take, Nat.min_self] at h3
  exact h3

set_option maxRecDepth 100000 in
set_option maxHeartbeats 1600000 in
theorem chunk_iter (sb nb : Nat) (a0 : Option Addr) (c0 : Nat) (l : List UInt8) (fp : Nat → Prop) (w : World) (hs : Blk w sb #[.slice a0 l.length c0] 30) (hn : Blk w nb #[.int .i64 240] 3) (hv : Bs w (.slice a0 l.length c0) l) (hl : l.length ≤ 1000000000)
    (f1 : ¬ fp sb) (f2 : ¬ fp nb) (f3 : ∀ g, (Value.slice a0 l.length c0).ownBlock = some g → ¬ fp g) :
    Iter Tryz.prog 218 #[.pointer (some ⟨sb, 0, none⟩), .pointer (some ⟨nb, 0, none⟩)] (chunks l) (ChunkY l (Value.slice a0 l.length c0).ownBlock) fp w.heap.size w := by
  intro n l0 J Jx hJ hJx hR h0
  have hcl : l.length ≤ c0 := by obtain ⟨_, _, e, h, _⟩ := hv; cases e; exact h
  refine callsIn_of_wp Tryz.func218 rfl trivial ?_ rfl
  simp only [Tryz.ntmps218, List.size_toArray, List.length_cons, List.length_nil, Nat.reduceAdd, Nat.reduceSub, Array.replicate_succ, Array.replicate_zero, List.push_toArray, List.append_toArray, List.nil_append, List.cons_append]
  gi_wp2
  gi_loopw [4, 5] (fun i e wr => ∃ k : Nat, k ≤ chunks l ∧ i = .int .i64 ((240 * k : Nat) : Int) ∧ J k wr ∧ Ext fp w wr) (fun i _ _ => l.length + 240 - (intOf i).toNat)
  case atStart => exact ⟨0, by omega, rfl, h0, Ext.refl _ _⟩
  case round =>
    obtain ⟨k, hk, rfl, hJk, hx⟩ := hrel
    have hsw := hs.ext hx f1
    have hnw := hn.ext hx f2
    have hvw := hv.ext hx (fun g hg _ => f3 g hg)
    have cs0 : wr.cell? ⟨sb, 0, none⟩ = some (.slice a0 l.length c0) := hsw.cell (o := 0) rfl
    have cn0 : wr.cell? ⟨nb, 0, none⟩ = some (.int .i64 240) := hnw.cell (o := 0) rfl
    by_cases hlt : 240 * k < l.length
    · have hkc : k < chunks l := by unfold chunks; omega
      obtain ⟨i0, hi0⟩ : ∃ i0, 240 * k = i0 := ⟨_, rfl⟩
      obtain ⟨e0, he0⟩ : ∃ e0, e0 = min 240 (l.length - i0) := ⟨_, rfl⟩
      have hse : Bs wr.drew (.slice (sla a0 (i0 + e0) i0) e0 e0) (chunkOf l k) := by
        have h3 : Bs wr.drew _ _ := hvw.slice3 (lo := i0) (hi := i0 + e0) (by omega) (by omega)
        rw [show i0 + e0 - i0 = e0 from by omega] at h3
        have : (l.drop i0).take e0 = chunkOf l k := by
          unfold chunkOf
          rw [hi0]
          rcases Nat.le_total 240 (l.length - i0) with h | h
          · rw [show e0 = 240 from by omega]
          · rw [List.take_of_length_le (by simp; omega), List.take_of_length_le (by simp; omega)]
        rw [← this]; exact h3
      have hRound := hR (n - 1) k wr.drew #[.slice (sla a0 (i0 + e0) i0) e0 e0] hkc (hJ k wr wr.drew hJk ((Ext.refl _ _).drew)) ⟨_, rfl, hse, fun g hg => ownBlock_sla hg⟩ (show w.heap.size ≤ wr.heap.size from hx.size)
      have hsl1 : ∀ W, (Instr.slice 30 (.slice a0 l.length c0) (some (.int .i64 (i0 : Int))) none none).run Tryz.prog W = .ok (.slice (sla a0 c0 i0) (l.length - i0) (c0 - i0)) W := fun W =>
        run_slice_from Tryz.underlying30 szu8 a0 l.length c0 (i0 : Int) (by omega) (by omega) W
      have hsl2 : ∀ W, (Instr.slice 30 (.slice a0 l.length c0) (some (.int .i64 (i0 : Int))) (some (.int .i64 ((i0 : Int) + (e0 : Int)))) (some (.int .i64 ((i0 : Int) + (e0 : Int))))).run Tryz.prog W = .ok (.slice (sla a0 (i0 + e0) i0) e0 e0) W := fun W => by
        rw [run_slice_3 Tryz.underlying30 szu8 a0 l.length c0 (i0 : Int) ((i0 : Int) + (e0 : Int)) (by omega) (by omega) (by omega) W]
        rw [show ((i0 : Int) + (e0 : Int)).toNat = i0 + e0 from by omega, Int.toNat_natCast, show i0 + e0 - i0 = e0 from by omega]
      have he240 : e0 ≤ 240 := by omega
      have hmin : (if ((l.length - i0 : Nat) : Int) < 240 then ((l.length - i0 : Nat) : Int) else 240) = (e0 : Int) := by split <;> omega
      rw [hi0] at hlt ⊢
      have Hi0 := hid hi0
      have hd : decide ((i0 : Int) < (l.length : Int)) = true := by simp; omega
      clear hse hR hv hvw hsw hnw hs hk hi0 he0
      gi_wp2
      refine wpIn_region_inv rfl Stays (fun i v x => match i with
          | 0 => v = .int .i64 240
          | 1 => v = .slice a0 l.length c0
          | 2 => v = .int .i64 (i0 : Int)
          | 3 => v = .slice (sla a0 c0 i0) (l.length - i0) (c0 - i0)
          | 4 => v = .int .i64 ((l.length - i0 : Nat) : Int)
          | 5 => v = .int .i64 (e0 : Int)
          | 6 => v = .int .i64 (e0 : Int)
          | _ => True) (by kernel_rfl) (Stays.refl _) Stays.trans ?stab ?steps ?fin
      case stab =>
        intro i v x y hg h
        match i with
        | 0 | 1 | 2 | 3 | 4 | 5 | 6 => exact h
        | n + 7 => trivial
      case steps =>
        refine ⟨?_, ?_, ?_, ?_, ?_, ?_, ?_, trivial⟩
        · intro a x hA
          have t2 := hA.at_ 2 (by rfl) rfl
          have hxe : x = wr.drew := hA.grow
          have cs1 : x.cell? ⟨sb, 0, none⟩ = some (.slice a0 l.length c0) := by rw [hxe]; exact cs0
          have cn1 : x.cell? ⟨nb, 0, none⟩ = some (.int .i64 240) := by rw [hxe]; exact cn0
          clear hxe
          refine stepIn_value (fun _ => trivial) rfl (w' := x) (v := .int .i64 240) ?_ (Stays.refl _) ?_
          · go_simp
          · rfl
        · intro a x hA
          have t1 := hA.at_ 1 (by rfl) rfl
          have hxe : x = wr.drew := hA.grow
          have cs1 : x.cell? ⟨sb, 0, none⟩ = some (.slice a0 l.length c0) := by rw [hxe]; exact cs0
          have cn1 : x.cell? ⟨nb, 0, none⟩ = some (.int .i64 240) := by rw [hxe]; exact cn0
          clear hxe
          refine stepIn_value (fun _ => trivial) rfl (w' := x) (v := .slice a0 l.length c0) ?_ (Stays.refl _) ?_
          · go_simp
          · rfl
        · intro a x hA
          have t4 := hA.at_ 4 (by rfl) rfl
          refine stepIn_value (fun _ => trivial) rfl (w' := x) (v := .int .i64 (i0 : Int)) ?_ (Stays.refl _) ?_
          · go_simp
          · rfl
        · intro a x hA
          have t14 : a.tmps[14]?.getD undef = .slice a0 l.length c0 := hA.dep_ ⟨1, .data⟩ (by simp) _ 14 rfl rfl
          have t15 : a.tmps[15]?.getD undef = .int .i64 (i0 : Int) := hA.dep_ ⟨2, .data⟩ (by simp) _ 15 rfl rfl
          refine stepIn_value (fun _ => trivial) rfl (w' := x) (v := .slice (sla a0 c0 i0) (l.length - i0) (c0 - i0)) ?_ (Stays.refl _) ?_
          · go_simp
          · rfl
        · intro a x hA
          have t16 : a.tmps[16]?.getD undef = .slice (sla a0 c0 i0) (l.length - i0) (c0 - i0) := hA.dep_ ⟨3, .data⟩ (by simp) _ 16 rfl rfl
          refine stepIn_value (fun _ => trivial) rfl (w' := x) (v := .int .i64 ((l.length - i0 : Nat) : Int)) ?_ (Stays.refl _) ?_
          · go_simp
          · rfl
        · intro a x hA
          have t13 : a.tmps[13]?.getD undef = .int .i64 240 := hA.dep_ ⟨0, .data⟩ (by simp) _ 13 rfl rfl
          have t17 : a.tmps[17]?.getD undef = .int .i64 ((l.length - i0 : Nat) : Int) := hA.dep_ ⟨4, .data⟩ (by simp) _ 17 rfl rfl
          refine stepIn_value (fun _ => trivial) rfl (w' := x) (v := .int .i64 (e0 : Int)) ?_ (Stays.refl _) ?_
          · go_simp
          · rfl
        · intro a x hA
          have t18 : a.tmps[18]?.getD undef = .int .i64 (e0 : Int) := hA.dep_ ⟨5, .data⟩ (by simp) _ 18 rfl rfl
          refine stepIn_value (fun _ => trivial) rfl (w' := x) (v := .int .i64 (e0 : Int)) ?_ (Stays.refl _) ?_
          · go_simp
          · rfl
      case fin =>
        intro y W' hg hV
        simp only [AllVals] at hV
        obtain ⟨_, _, _, _, _, _, h6, _⟩ := hV
        obtain rfl : W' = wr.drew := hg
        simp only [putAll, Act.put, List.setIfInBounds_toArray, List.set_cons_zero, List.set_cons_succ]
        rw [h6]
        obtain ⟨fn, tmps, assign, body, hy, hRR⟩ := hRound
        gi_wp2
        refine ⟨fun h => by simp [Fence.wide] at h, hRR.mono ?_⟩
        rintro e W3 (⟨rfl, hJ3, hx3⟩ | ⟨rfl, ⟨k', hJx3⟩, _⟩)
        · have hxx := (hx.drew).trans' hx3
          have cn3 := (hn.ext hxx f2).cell (o := 0) rfl
          gi_wp2
          go_roundw
          case rel => exact ⟨k + 1, by omega, by rw [← Hi0.out]; congr 1, hJ3, hxx⟩
          case measure => simp [intOf]; omega
        · gi_wp2
          refine bodyPost_ret (results_none rfl _ _ _) rfl ?_
          exact ⟨⟨_, rfl⟩, .inr ⟨k', hJx3⟩⟩

    · obtain rfl : k = chunks l := by unfold chunks at *; omega
      have hd : decide (((240 * chunks l : Nat) : Int) < (l.length : Int)) = false := by simp; omega
      generalize 240 * chunks l = i0 at *
      gi_wp2
      go_end0
      exact ⟨⟨_, rfl⟩, .inl hJk⟩

end Go.Proofs.YtcdcjoofcbdilaaGreat

/-! The walks of package wire, on: frames. -/
namespace Go.Proofs.YtcdcjoofcbdilaaGreat
open Go.RowKit

/-- A frame's bytes ahead of its sum; a frame. -/
def frameH (kind : Int) (body : List UInt8) : List UInt8 := byteOf kind 0 :: (lowB body.length 4 ++ body)
def frameB (kind : Int) (body : List UInt8) : List UInt8 := frameH kind body ++ lowB (crcOf (frameH kind body)) 4

theorem Parts.three {w : World} {g : Nat} {t : TypeId} {a b c : Value} {x y z : List UInt8} (h : Blk w g #[a, b, c] t) (ha : Bs w a x) (hb : Bs w b y) (hc : Bs w c z) : Parts w g [a, b, c] [x, y, z] := by
  refine ⟨rfl, fun i v hv => h.cell (by simpa using hv), fun i v l hv hl => ?_⟩
  match i, hv, hl with
  | 0, hv, hl => simp at hv hl; subst hv hl; exact ha
  | 1, hv, hl => simp at hv hl; subst hv hl; exact hb
  | 2, hv, hl => simp at hv hl; subst hv hl; exact hc
theorem Parts.two {w : World} {g : Nat} {t : TypeId} {a b : Value} {x y : List UInt8} (h : Blk w g #[a, b] t) (ha : Bs w a x) (hb : Bs w b y) : Parts w g [a, b] [x, y] := by
  refine ⟨rfl, fun i v hv => h.cell (by simpa using hv), fun i v l hv hl => ?_⟩
  match i, hv, hl with
  | 0, hv, hl => simp at hv hl; subst hv hl; exact ha
  | 1, hv, hl => simp at hv hl; subst hv hl; exact hb
theorem Parts.one {w : World} {g : Nat} {t : TypeId} {a : Value} {x : List UInt8} (h : Blk w g #[a] t) (ha : Bs w a x) : Parts w g [a] [x] := by
  refine ⟨rfl, fun i v hv => h.cell (by simpa using hv), fun i v l hv hl => ?_⟩
  match i, hv, hl with
  | 0, hv, hl => simp at hv hl; subst hv hl; exact ha

/-- A block of bytes written out. -/
theorem Blk.bs1 {w : World} {g : Nat} {u : UInt8} {t : TypeId} {n : Int} (h : Blk w g #[.int .u8 n] t) (hn : n = (u.toNat : Int)) : Bs w (.slice (some ⟨g, 0, none⟩) 1 1) [u] :=
  Bs.mk rfl (Nat.le_refl _) (by unfold maxLen; omega) (fun i x hx => by
    match i, hx with
    | 0, hx => simp at hx; subst hx; exact h.cell (by simp [hn]))

theorem lowB_val (n : Nat) (k : Nat) : (lowB n k).length = k := lowB_length _ _

set_option maxRecDepth 100000 in
set_option maxHeartbeats 800000 in
theorem wire_Frame (kind : Int) (v : Value) (l : List UInt8) (w : World) (h0 : 0 ≤ kind) (h1 : kind ≤ 255) (hv : Bs w v l) (hl : l.length ≤ 65536) :
    Calls Tryz.prog 57 #[.int .i64 kind, v] w fun e w' => ∃ v', e = .returned (.tuple #[v', .int .i64 0]) ∧ Own8 w' w.heap.size 5 v' (frameB kind l) ∧ Below w.heap.size w w' := by
  obtain ⟨a, c, rfl, hc, hm, ha, hsp, hr⟩ := id hv
  clear hr
  have hl' : (l.length : Int) ≤ 65536 := by omega
  go_enter Tryz.func57, Tryz.ntmps57
  go_wp2_with fail
  have hb1 : Below w.heap.size w (w.alloc (.cells #[.int .u8 kind] 5)) := (Below.refl _ w).alloc (Nat.le_refl _) _
  have B1 := Blk.new w #[.int .u8 kind] 5
  have hv1 := hv.keep hb1
  generalize w.alloc (.cells #[.int .u8 kind] 5) = W1 at *
  refine (wire_low _ _ _ (by omega) (by omega) (by omega)).mono ?_
  rintro e W2 ⟨v2, rfl, o2, b2⟩
  replace o2 : Own8 W2 W1.heap.size 5 v2 (lowB (l.length : Int) 4) := o2
  obtain ⟨a2, c2, rfl⟩ := o2.form
  have B2 := B1.keep b2
  have s1 : Bs W2 _ [byteOf kind 0] := B2.bs1 (by rw [byteOf_val]; simp; omega)
  have hv2 := hv1.keep b2
  have s2 := o2.bs
  have hb2 := hb1.trans (b2.mono hb1.size)
  clear hv hv1 B1 B2 o2 hb1 b2
  go_wp2_with fail
  have B3 := Blk.new W2 #[.slice (some ⟨w.heap.size, 0, none⟩) 1 1, .slice a2 (lowB (l.length : Int) 4).length c2, .slice a l.length c] 30
  have b3 : Below W2.heap.size W2 (W2.alloc (.cells #[.slice (some ⟨w.heap.size, 0, none⟩) 1 1, .slice a2 (lowB (l.length : Int) 4).length c2, .slice a l.length c] 30)) := (Below.refl _ _).alloc (Nat.le_refl _) _
  generalize W2.alloc (.cells #[.slice (some ⟨w.heap.size, 0, none⟩) 1 1, .slice a2 (lowB (l.length : Int) 4).length c2, .slice a l.length c] 30) = W3 at *
  have hb3 := hb2.trans (b3.mono hb2.size)
  have hP := Parts.three B3 (s1.keep b3) (s2.keep b3) (hv2.keep b3)
  have hF : [[byteOf kind 0], lowB (l.length : Int) 4, l].flatten = frameH kind l := by simp [frameH]
  have hFl : (frameH kind l).length ≤ l.length + 5 := by simp [frameH, lowB_length]; omega
  refine (wire_join _ _ _ _ _ W3 rfl hP (by simp) (Nat.le_trans (Nat.le_of_eq (congrArg List.length hF)) (by omega))).mono ?_
  rw [hF]
  rintro e W4 ⟨v4, rfl, o4, b4⟩
  obtain ⟨a4, c4, rfl⟩ := o4.form
  have hb4 := hb3.trans (b4.mono hb3.size)
  clear hP B3 s1 s2 hv2 b3 hb3 b4 hb2
  go_wp2_with fail
  refine (wire_Crc _ _ W4 o4.bs (by omega)).mono ?_
  rintro e W5 ⟨rfl, b5⟩
  have s4 := o4.bs.keep b5
  have hb5 := hb4.trans (b5.mono hb4.size)
  clear o4 b5 hb4
  have hcl := crcOf_lt (frameH kind l)
  generalize hcr : crcOf (frameH kind l) = cr at *
  have Hcr := hid hcr
  clear hcr
  generalize hfh : frameH kind l = fh at *
  have Hfh := hid hfh
  clear hfh
  go_wp2_with fail
  refine (wire_low _ _ W5 (by omega) (by omega) (by omega)).mono ?_
  rintro e W6 ⟨v6, rfl, o6, b6⟩
  replace o6 : Own8 W6 W5.heap.size 5 v6 (lowB (cr : Int) 4) := o6
  obtain ⟨a6, c6, rfl⟩ := o6.form
  have s5 := s4.keep b6
  have hb6 := hb5.trans (b6.mono hb5.size)
  clear s4 b6 hb5
  go_wp2_with fail
  have B7 := Blk.new W6 #[.slice a4 fh.length c4, .slice a6 (lowB (cr : Int) 4).length c6] 30
  have b7 : Below W6.heap.size W6 (W6.alloc (.cells #[.slice a4 fh.length c4, .slice a6 (lowB (cr : Int) 4).length c6] 30)) := (Below.refl _ _).alloc (Nat.le_refl _) _
  generalize W6.alloc (.cells #[.slice a4 fh.length c4, .slice a6 (lowB (cr : Int) 4).length c6] 30) = W7 at *
  have hb7 := hb6.trans (b7.mono hb6.size)
  have hP := Parts.two B7 (s5.keep b7) (o6.bs.keep b7)
  have hG : [fh, lowB (cr : Int) 4].flatten = frameB kind l := by rw [frameB, Hfh.out, Hcr.out]; simp
  refine (wire_join _ _ _ _ _ W7 rfl hP (by simp) (by simp [lowB_length]; omega)).mono ?_
  rw [hG]
  rintro e W8 ⟨v8, rfl, o8, b8⟩
  have hb8 := hb7.trans (b8.mono hb7.size)
  have o8' := o8.mono hb7.size
  clear hG hP o8
  go_wp2_with fail
  go_ret2
  exact ⟨_, rfl, o8', hb8⟩

end Go.Proofs.YtcdcjoofcbdilaaGreat
