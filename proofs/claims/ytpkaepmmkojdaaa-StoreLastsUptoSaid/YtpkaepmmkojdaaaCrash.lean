import Derived.Test.YtpkaepmmkojdaaaKeys
import Derived.Test.YtpkaepmmkojdaaaSync
import Derived.Test.YtpkaepmmkojdaaaMSrt
import Derived.Test.YtpkaepmmkojdaaaPut
import Derived.Deep.CutRange
/-! Package disk: Crash. -/
namespace Go.Proofs.Ytpkaepmmkojdaaa
open Go.RowKit

/-- What a crash leaves of one block that was written since. -/
def Dk.crash1 (D : Dk) (i : Int) (c : Int) : Dk :=
  if c = 1 then { D with texts := D.texts.set i.toNat ((D.vers i).getD []), bad := fun k => D.bad k && !decide (k = i) }
  else if c = 0 then D else { D with bad := fun k => D.bad k || decide (k = i) }
def Dk.crashGo (D : Dk) : List Int → List Int → Dk
  | [], _ => D
  | i :: L, ch => (D.crash1 i (ch.headD 0)).crashGo L ch.tail
def Dk.crashed (D : Dk) (L ch : List Int) : Dk := { D.crashGo L ch with vers := fun _ => none, off := false, fuse := -1 }
theorem Dk.crash1_vers (D : Dk) (i c : Int) : (D.crash1 i c).vers = D.vers ∧ (D.crash1 i c).off = D.off ∧ (D.crash1 i c).fuse = D.fuse ∧ (D.crash1 i c).texts.length = D.texts.length := by
  unfold Dk.crash1
  split
  · exact ⟨rfl, rfl, rfl, by simp⟩
  · split <;> exact ⟨rfl, rfl, rfl, rfl⟩
theorem Dk.crashGo_vers : ∀ (L ch : List Int) (D : Dk), (D.crashGo L ch).vers = D.vers ∧ (D.crashGo L ch).off = D.off ∧ (D.crashGo L ch).fuse = D.fuse ∧ (D.crashGo L ch).texts.length = D.texts.length
  | [], _, D => ⟨rfl, rfl, rfl, rfl⟩
  | i :: L, ch, D => by
    obtain ⟨h1, h2, h3, h4⟩ := Dk.crashGo_vers L ch.tail (D.crash1 i (ch.headD 0))
    obtain ⟨g1, g2, g3, g4⟩ := Dk.crash1_vers D i (ch.headD 0)
    exact ⟨h1.trans g1, h2.trans g2, h3.trans g3, h4.trans g4⟩
theorem Dk.crashGo_snoc (k : Int) : ∀ (A ch : List Int) (D : Dk), D.crashGo (A ++ [k]) ch = (D.crashGo A ch).crash1 k (ch.getD A.length 0)
  | [], ch, D => by cases ch <;> rfl
  | i :: A, ch, D => by
    have := Dk.crashGo_snoc k A ch.tail (D.crash1 i (ch.headD 0))
    show (D.crash1 i (ch.headD 0)).crashGo (A ++ [k]) ch.tail = _
    rw [this]
    show _ = ((D.crash1 i (ch.headD 0)).crashGo A ch.tail).crash1 k _
    congr 1
    cases ch <;> simp
theorem Dk.crashGo_next {L ch : List Int} {D : Dk} {t : Nat} {k : Int} (h : L[t]? = some k) : D.crashGo (L.take (t + 1)) ch = (D.crashGo (L.take t) ch).crash1 k (ch.getD t 0) := by
  have hl := (List.getElem?_eq_some_iff.1 h).1
  rw [List.take_add_one, h]
  show D.crashGo (L.take t ++ [k]) ch = _
  rw [Dk.crashGo_snoc, List.length_take, Nat.min_eq_left (by omega)]
theorem DkAt.unvers {W W' : World} {p : DkP} {D : Dk} (h : DkAt W p D) {c : Nat} (hm : MapAt W' p.mv encI ([] : List (Ent Int)) c) (he : Ext (fun b => b = p.mv) W W') : DkAt W' p { D with vers := fun _ => none } where
  cell := h.cell.ext he h.ne.2.2.1
  rows := fun i t ht => rangeAt_ext (h.rows i t ht) he h.ne.2.2.2.2.1
  free := fun o => by rw [frozen_ext he h.base.2.1 h.ne.2.2.2.2.1]; exact h.free o
  lens := h.lens
  pos := h.pos
  most := h.most
  bads := by obtain ⟨es, c, hm, hr⟩ := h.bads; exact ⟨es, c, hm.ext he h.ne.2.2.2.2.2, hr⟩
  vers := ⟨[], c, hm, fun k => rfl, fun e he => by simp at he⟩
  ne := h.ne
  low := h.low
  base := DkAt.base' h.base he.size
  fuse := h.fuse
theorem DkAt.rebad {W W' : World} {p : DkP} {D : Dk} (h : DkAt W p D) (i : Int) {es : List (Ent Int)} {c c' : Nat} (hr : ∀ k, D.bad k = mhas es k) (hv : ∀ e ∈ es, e.v = .bool true) (hm : MapAt W' p.mb encI (mput es i (.bool true) c) c') (he : Ext (fun b => b = p.mb) W W') : DkAt W' p { D with bad := fun k => D.bad k || decide (k = i) } where
  cell := h.cell.ext he h.ne.2.1
  rows := fun i t ht => rangeAt_ext (h.rows i t ht) he h.ne.2.2.2.1
  free := fun o => by rw [frozen_ext he h.base.2.1 h.ne.2.2.2.1]; exact h.free o
  lens := h.lens
  pos := h.pos
  most := h.most
  bads := ⟨_, _, hm, fun k => by
    show (D.bad k || decide (k = i)) = _
    rw [mput_has, hr k]
    first | rfl | exact Bool.or_comm _ _ | trace_state, fun e he => by
    rcases mput_mem he with ⟨_, h2⟩ | ⟨_, h2⟩
    · exact h2
    · exact hv e h2⟩
  vers := by
    obtain ⟨es, c, hm, hr, hv⟩ := h.vers
    refine ⟨es, c, hm.ext he (Ne.symm h.ne.2.2.2.2.2), hr, fun e hm => ?_⟩
    obtain ⟨t, q1, q2, q3⟩ := hv e hm
    exact ⟨t, q1, q2.ext he (fun b hb => by rw [hb]; exact h.low.2.2.1), q3⟩
  ne := h.ne
  low := h.low
  base := DkAt.base' h.base he.size
  fuse := h.fuse
section
variable {W : World} {p : DkP} {D : Dk}
set_option maxRecDepth 100000 in
set_option maxHeartbeats 3200000 in
theorem disk_Crash (h : DkAt W p D) (v : Value) (ch : List Int) (hv : Is W v ch) (hvo : ∀ g, v.ownBlock = some g → ¬ p.own g) (hl : ch.length ≤ 9223372036854775807) :
    Calls Try.prog 9 #[.pointer (some ⟨p.d, 0, none⟩), v] W fun e w' => (∃ x, e = .returned x) ∧ ∃ L, L.Pairwise (· ≤ ·) ∧ L.Nodup ∧ (∀ k, k ∈ L ↔ (D.vers k).isSome = true) ∧ DkAt w' p (D.crashed L ch) ∧ Ext p.own W w' := by
  obtain ⟨es, cl, hmv, hes, hev⟩ := h.vers
  have hlen : es.length ≤ 1000000 := by
    have h1 : (es.map (·.k)).length ≤ ((List.range D.texts.length).map Int.ofNat).length := len_sub hmv.keys (fun b hb => by
      obtain ⟨e, he, rfl⟩ := List.mem_map.1 hb
      obtain ⟨t, _, _, h3, h4, _⟩ := hev e he
      exact List.mem_map.2 ⟨e.k.toNat, List.mem_range.2 (by omega), by show ((e.k.toNat : Nat) : Int) = e.k; omega⟩)
    have := h.most
    simp at h1
    omega
  obtain ⟨ca, cc, hvf, hci⟩ := hv
  subst hvf
  have c2 := h.cell.cell (o := 2) rfl
  have HN := hid (disk_none h)
  have HD0 := hid (And.intro h (And.intro hmv (And.intro hes hev)))
  have HCI := hid (And.intro hci hvo)
  obtain ⟨N, hN⟩ : ∃ N, ch.length = N := ⟨_, rfl⟩
  have HNN := hid hN
  rw [hN] at hl ⊢
  clear h hmv hes hev hci hvo hN
  go_enter Try.func9, Try.ntmps9
  go_wp2_with fail
  refine HN.out.mono ?_
  rintro e Wx ⟨rfl, hw⟩
  rw [hw]
  clear hw Wx HN
  go_wp2_with fail
  refine (keys_callD p.mv W).mono ?_
  rintro e W1 ⟨rfl, hW1⟩
  have b1 : Below W.heap.size W W1 := by rw [hW1]; exact (Below.refl _ W).alloc (Nat.le_refl _) _
  have k1 : Blk W1 W.heap.size #[.map (some p.mv)] 53 := by rw [hW1]; exact Blk.new W _ _
  have HS := hid (sorted_keysD W.heap.size p.mv cl W1 es hlen k1 (HD0.out.2.1.keep b1))
  have HB1 := hid b1
  clear hW1 k1 b1
  go_wp2_with fail
  refine HS.out.mono ?_
  rintro e W2 ⟨sv, L, rfl, hp, hw, ho, b2⟩
  obtain ⟨sa, sc, rfl⟩ : ∃ a c, sv = .slice a L.length c := by
    rcases ho.2 with ⟨e, h0⟩ | ⟨g, cap, _, e, _⟩
    · exact ⟨none, 0, by rw [e, h0]⟩
    · exact ⟨_, _, e⟩
  have hb12 := HB1.out.trans (b2.mono HB1.out.size)
  have hLk : ∀ k, k ∈ L ↔ (D.vers k).isSome = true := fun k => by
    rw [hp.mem_iff, HD0.out.2.2.1 k]
    unfold mhas
    rw [List.any_eq_true]
    constructor
    · intro h9
      obtain ⟨e, he, rfl⟩ := List.mem_map.1 h9
      exact ⟨e, he, by simp⟩
    · rintro ⟨e, he, h9⟩
      exact List.mem_map.2 ⟨e, he, by simpa [eq_comm] using h9⟩
  have hLn : L.Nodup := hp.nodup_iff.2 HD0.out.2.1.keys
  have hll : L.length ≤ 1000000 := by have := hp.length_eq; simp at this; omega
  have HL := hid (And.intro hw (And.intro hLn (And.intro hLk (And.intro ho hb12))))
  have hDk := HD0.out.1.keep hb12
  have HDK := hid hDk
  clear hp hw ho b2 hLk hLn HS hDk hb12 hlen c2
  go_upto_region 2 with fail
  go_loopw [17] (fun i wr => ∃ t : Nat, t ≤ L.length ∧ i = .int .i64 (t : Int) ∧ DkAt wr p (D.crashGo (L.take t) ch) ∧ Ext p.own W2 wr) (fun i _ => L.length - (intOf i).toNat)
  case atStart => exact ⟨0, Nat.zero_le _, rfl, HDK.out, Ext.refl _ _⟩
  case round =>
    obtain ⟨t, ht, rfl, hD, hx⟩ := hrel
    by_cases hlt : t < L.length
    · have hd1 : decide ((t : Int) < (L.length : Int)) = true := decide_eq_true (by omega)
      have wt : wrap64 ((t : Int) + 1) = (t : Int) + 1 := by unfold wrap64; omega
      obtain ⟨k, hk⟩ : ∃ k, L[t]? = some k := ⟨L[t], List.getElem?_eq_getElem hlt⟩
      have hkL := List.mem_of_getElem? hk
      obtain ⟨c, hc⟩ : ∃ c, ch.getD t 0 = c := ⟨_, rfl⟩
      obtain ⟨D', hD'⟩ : ∃ D', D.crashGo (L.take t) ch = D' := ⟨_, rfl⟩
      have hstep : D.crashGo (L.take (t + 1)) ch = D'.crash1 k c := by rw [Dk.crashGo_next hk, hD', hc]
      rw [hD'] at hD
      have hkv : (D'.vers k).isSome = true := by rw [← hD', (Dk.crashGo_vers _ _ _).1]; exact (HL.out.2.2.1 k).1 hkL
      obtain ⟨esv, cv, hmv, hrv, hvv⟩ := hD.vers
      obtain ⟨e, he, rfl, hget⟩ := mget_mem (es := esv) (k := k) (by rw [← hrv k]; exact hkv)
      obtain ⟨tx, q1, ⟨g, cap, hgv, hcap, hgV, hrt0⟩, hk0, hkn0, htl⟩ := hvv e he
      obtain ⟨kk, hkk⟩ := Int.eq_ofNat_of_zero_le hk0
      have hlk := run_lookup_raw (P := Try.prog) (keyLaw_int Try.underlying3) hmv Try.underlying53 e.k (z := .slice none 0 0) (fun w => by kernel_rfl) false
      rw [hget] at hlk
      simp only [Bool.false_eq_true, if_false, Option.getD_some, encI] at hlk
      rw [hgv, hkk] at hlk
      have ho9 := HL.out.2.2.2.1
      obtain ⟨lb, rfl⟩ : ∃ lb, sa = some ⟨lb, 0, none⟩ := by
        rcases ho9.2 with ⟨e9, h0⟩ | ⟨g9, cap9, cur, e9, _⟩
        · have : L.length = 0 := h0
          omega
        · injection e9 with e1
          exact ⟨g9, e1⟩
      have hlb := World.ownsRow.lt ho9 lb rfl
      have hbs := HB1.out.size
      have hlo : ¬ p.own lb := by
        obtain ⟨h1, h2, h3, h4, _⟩ := HD0.out.1.base
        unfold DkP.own
        omega
      have hlc : wr.cell? ⟨lb, t, none⟩ = some (.int .i64 (kk : Int)) := by
        have h9 : W2.cell? ⟨lb, t, none⟩ = some (.int .i64 (kk : Int)) := by
          rcases ho9.2 with ⟨e9, _⟩ | ⟨g9, cap9, cur, e9, hb9, hg9, hnc, hcm, hcs, htk⟩
          · cases e9
          · injection e9 with e1 e2 e3
            injection e1 with e1
            injection e1 with e1
            subst e1
            have hu : (L.map iv)[t]? = some (iv (kk : Int)) := by simp [hk, hkk]
            rw [← htk, List.getElem?_take] at hu
            split at hu
            · simp [World.cell?, hg9]
              simpa using hu
            · cases hu
        exact ext_cell h9 hx hlo
      have HCx := hid (And.intro hc (And.intro hD (And.intro hstep (And.intro hx (And.intro hk (And.intro hmv (And.intro hrv hvv)))))))
      have c2 := hD.cell.cell (o := 2) rfl
      have cb1 := hD.cell.cell (o := 1) rfl
      have c0 := hD.cell.cell (o := 0) rfl
      clear ho9 hrv hvv hmv hD hstep hx hc he
      go_upto_if 25 with fail
      go_cut [6] from 26 to 67 (fun s wx => s = .int .i64 c ∧ wr = wx)
      case first =>
        by_cases hcN : t < N
        · have hd : decide ((t : Int) < (N : Int)) = true := decide_eq_true (by omega)
          have htc : ch[t]? = some c := by
            have h9 := HCx.out.1
            have h8 := HNN.out
            rw [List.getD_eq_getElem?_getD, List.getElem?_eq_getElem (by omega)] at h9
            rw [List.getElem?_eq_getElem (by omega)]
            exact congrArg some h9
          obtain ⟨g0, o0, hca, hcell⟩ := HCI.out.1 t c htc
          subst hca
          have hng : ¬ p.own g0 := HCI.out.2 g0 rfl
          have hcw : wr.cell? ⟨g0, o0 + t, none⟩ = some (.int .i64 c) := ext_cell (ext_cell hcell (fp := nofp) (Ext.ofBelow HL.out.2.2.2.2) (fun h => h)) HCx.out.2.2.2.1 hng
          clear hcell hlk hrt0 hlc c2 cb1 c0
          go_wp2_with fail
          all_goals first | (exfalso; omega) | skip
          go_meet
          case rel => exact ⟨rfl, rfl⟩
        · have hd : decide ((t : Int) < (N : Int)) = false := decide_eq_false (by omega)
          obtain rfl : c = 0 := by
            have h9 := HCx.out.1
            have h8 := HNN.out
            rw [List.getD_eq_getElem?_getD, List.getElem?_eq_none (by omega)] at h9
            exact h9.symm
          clear hlk hrt0 hlc c2 cb1 c0
          go_wp2_with fail
          all_goals first | (exfalso; omega) | skip
          go_meet
          case rel => exact ⟨rfl, rfl⟩
      case rest =>
        obtain ⟨rfl, rfl⟩ := hcut
        rcases (by omega : c = 1 ∨ c = 0 ∨ 1 < c ∨ c < 0) with hc1 | hc0 | hc2 | hc3
        · subst hc1
          have HD := hid HCx.out.2.1
          have hrt : wr.drew.rangeAt g 0 (tx.map bv) := hrt0
          obtain ⟨n, hn'⟩ : ∃ n, n = D'.texts.length := ⟨_, rfl⟩
          rw [← hn'] at c0
          have hkn : kk < n := by omega
          have ct0 : wr.drew.cell? ⟨p.d, 0, none⟩ = some (.slice (some ⟨p.gt, 0, none⟩) n n) := c0
          have Hn := hid hn'
          have hw0 : IntKind.i64.wrap 0 = 0 := by rw [IntKind.wrap_i64]; rfl
          clear hn' c0 hrt0
          go_upto_region 9 with fail
          refine wp_region_tail 11 rfl Stays (fun i v x => match i with
              | 0 => v = .pointer (some ⟨p.d, 0, none⟩)
              | 1 => v = .pointer (some ⟨p.d, 0, none⟩)
              | 2 => v = .pointer (some ⟨p.d, 0, none⟩)
              | 3 => v = .slice (some ⟨p.gt, 0, none⟩) n n
              | 4 => v = .int .i64 (kk : Int)
              | 5 => v = .slice (some ⟨g, 0, none⟩) 1 cap
              | 6 => v = .int .i64 1
              | 7 => v = .int .i64 0
              | 8 => v = .pointer (some ⟨g, 0, none⟩)
              | 9 => v = .agg (tx.map bv).toArray
              | 10 => v = .pointer (some ⟨p.gt, 256 * kk, none⟩)
              | _ => True) (by kernel_rfl) (Stays.refl _) Stays.trans ?rstab ?rsteps ?rfin
          case rstab =>
            intro i v x y hg h
            match i with
            | 0 | 1 | 2 | 3 | 4 | 5 | 6 | 7 | 8 | 9 | 10 => exact h
            | n + 11 => trivial
          case rsteps =>
            simp only [List.take_succ_cons, List.take_zero]
            refine ⟨?_, ?_, ?_, ?_, ?_, ?_, ?_, ?_, ?_, ?_, ?_, trivial⟩
            · intro a x hA
              have t0 := hA.at_ 0 (by first | rfl | kernel_rfl) rfl
              refine step_value (w' := x) (v := .pointer (some ⟨p.d, 0, none⟩)) ?_ (Stays.refl _) ?_
              · go_simp
              · rfl
            · intro a x hA
              have t44 : a.tmps[44]?.getD undef = .pointer (some ⟨p.d, 0, none⟩) := hA.dep_ ⟨0, .data⟩ (by simp) _ 44 rfl rfl
              refine step_value (w' := x) (v := .pointer (some ⟨p.d, 0, none⟩)) ?_ (Stays.refl _) ?_
              · go_simp
              · rfl
            · intro a x hA
              have t45 : a.tmps[45]?.getD undef = .pointer (some ⟨p.d, 0, none⟩) := hA.dep_ ⟨1, .data⟩ (by simp) _ 45 rfl rfl
              refine step_value (w' := x) (v := .pointer (some ⟨p.d, 0, none⟩)) ?_ (Stays.refl _) ?_
              · go_simp
              · rfl
            · intro a x hA
              have t46 : a.tmps[46]?.getD undef = .pointer (some ⟨p.d, 0, none⟩) := hA.dep_ ⟨2, .data⟩ (by simp) _ 46 rfl rfl
              have hxe : x = wr.drew := hA.grow
              have c0 : x.cell? ⟨p.d, 0, none⟩ = some (.slice (some ⟨p.gt, 0, none⟩) n n) := by rw [hxe]; exact ct0
              clear hxe
              refine step_value (w' := x) (v := .slice (some ⟨p.gt, 0, none⟩) n n) ?_ (Stays.refl _) ?_
              · go_simp
              · rfl
            · intro a x hA
              have t5 := hA.at_ 5 (by first | rfl | kernel_rfl) rfl
              refine step_value (w' := x) (v := .int .i64 (kk : Int)) ?_ (Stays.refl _) ?_
              · go_simp
              · rfl
            · intro a x hA
              have t7 := hA.at_ 7 (by first | rfl | kernel_rfl) rfl
              refine step_value (w' := x) (v := .slice (some ⟨g, 0, none⟩) 1 cap) ?_ (Stays.refl _) ?_
              · go_simp
              · rfl
            · intro a x hA
              have t6 := hA.at_ 6 (by first | rfl | kernel_rfl) rfl
              refine step_value (w' := x) (v := .int .i64 1) ?_ (Stays.refl _) ?_
              · go_simp
              · rfl
            · intro a x hA
              have t50 : a.tmps[50]?.getD undef = .int .i64 1 := hA.dep_ ⟨6, .data⟩ (by simp) _ 50 rfl rfl
              refine step_value (w' := x) (v := .int .i64 0) ?_ (Stays.refl _) ?_
              · go_simp
              · rfl
            · intro a x hA
              have t49 : a.tmps[49]?.getD undef = .slice (some ⟨g, 0, none⟩) 1 cap := hA.dep_ ⟨5, .data⟩ (by simp) _ 49 rfl rfl
              have t51 : a.tmps[51]?.getD undef = .int .i64 0 := hA.dep_ ⟨7, .data⟩ (by simp) _ 51 rfl rfl
              refine step_value (w' := x) (v := .pointer (some ⟨g, 0, none⟩)) ?_ (Stays.refl _) ?_
              · go_simp
              · rfl
            · intro a x hA
              have t52 : a.tmps[52]?.getD undef = .pointer (some ⟨g, 0, none⟩) := hA.dep_ ⟨8, .data⟩ (by simp) _ 52 rfl rfl
              have hxe : x = wr.drew := hA.grow
              have c0 : x.cell? ⟨p.d, 0, none⟩ = some (.slice (some ⟨p.gt, 0, none⟩) n n) := by rw [hxe]; exact ct0
              clear hxe
              have hra : x.rangeAt g 0 (tx.map bv) := by have hxe : x = wr.drew := hA.grow; rw [hxe]; exact hrt
              have hld := run_loadAt_mid (P := Try.prog) x g 0 78 (tx.map bv) _ hra Try.underlying78 rfl (by rw [List.length_map, htl]; exact size_text)
              refine step_value (w' := x) (v := .agg (tx.map bv).toArray) (exec_load rfl (by
                have e22 : a.eval (.tmp 52) = .pointer (some ⟨g, 0, none⟩) := by simp [go_sem, t52]
                rw [e22]; exact hld)) (Stays.refl _) ?_
              rfl
            · intro a x hA
              have t47 : a.tmps[47]?.getD undef = .slice (some ⟨p.gt, 0, none⟩) n n := hA.dep_ ⟨3, .data⟩ (by simp) _ 47 rfl rfl
              have t48 : a.tmps[48]?.getD undef = .int .i64 (kk : Int) := hA.dep_ ⟨4, .data⟩ (by simp) _ 48 rfl rfl
              refine step_value (w' := x) (v := .pointer (some ⟨p.gt, 256 * kk, none⟩)) ?_ (Stays.refl _) ?_
              · go_simp
              · rfl
          case rfin =>
            intro y W' hg hV
            simp only [List.take_succ_cons, List.take_zero, AllVals] at hV
            obtain ⟨-, -, -, -, -, -, -, -, -, u9, u10, _⟩ := hV
            simp only [List.take_succ_cons, List.take_zero, List.drop_succ_cons, List.drop_zero, putAll, Act.put, List.setIfInBounds_toArray, List.set_cons_zero, List.set_cons_succ]
            obtain rfl : W' = wr.drew := hg
            rw [u9, u10]
            clear u9 u10
            have hD1' : DkAt wr.drew p D' := HD.out.keep ((Below.refl _ wr).drew)
            have hkn2 : kk < D'.texts.length := by rw [← Hn.out]; exact hkn
            obtain ⟨hD2, x2⟩ := hD1'.text kk tx hkn2 htl
            have hthere : wr.drew.there p.gt (256 * kk) (tx.map bv).toArray.size := by
              intro j hj
              refine ⟨?_, hD1'.free _⟩
              obtain ⟨u, hu⟩ : ∃ u, D'.texts[kk]? = some u := ⟨D'.texts[kk], by simp⟩
              have hul := hD1'.lens u (List.mem_of_getElem? hu)
              simp only [List.size_toArray, List.length_map, htl] at hj
              rw [hD1'.rows kk u hu j (bv (u[j]'(by omega))) (by rw [List.getElem?_map, List.getElem?_eq_getElem (by omega)]; rfl)]
              rfl
            have hst := run_storeAt_mid (P := Try.prog) wr.drew p.gt (256 * kk) 78 (tx.map bv).toArray hthere (by rw [List.size_toArray, List.length_map, htl]; exact size_text) (by
              rw [Array.all_eq_true_iff_forall_mem]
              intro v hv
              simp only [List.mem_toArray, List.mem_map] at hv
              obtain ⟨b, _, rfl⟩ := hv
              rfl)
            simp only [List.toList_toArray] at hst
            refine wpList_skip rfl (exec_store rfl (by simpa [go_sem] using hst)) ?_
            have x12 : Ext (fun b => b = p.gt) wr (wr.drew.setCells p.gt (256 * kk) (tx.map bv)) := (Ext.refl (fun b => b = p.gt) wr).drew.trans' x2
            generalize wr.drew.setCells p.gt (256 * kk) (tx.map bv) = w2 at *
            clear hst hthere hD1' hrt ct0
            obtain ⟨esb, cb, hmb, hrb, hvb⟩ := hD2.bads
            obtain ⟨w3, hdel3, hmb3, x3⟩ := run_delete_raw (P := Try.prog) (keyLaw_int Try.underlying3) hmb (M := 52) (X := 3) (ty := 0) Try.underlying52 (kk : Int)
            have hD3 := hD2.unbad (kk : Int) hrb hvb hmb3 x3
            have cm2 := hD2.cell.cell (o := 1) rfl
            have HD3 := hid (And.intro hD3 ((x12.mono (fun b _ h => .inl h)).trans' (x3.mono (fun b _ h => .inr h)) : Ext (fun b => b = p.gt ∨ b = p.mb) wr w3))
            clear hrb hvb hmb hmb3 hD2 hD3 x2 x3 x12
            simp only [encI] at hdel3
            go_wp2_with fail
            refine ⟨⟨t + 1, hlt, by go_num, ?_, HCx.out.2.2.2.1.trans' (HD3.out.2.mono (fun b _ h => h.elim (fun h => .inr (.inl h)) (fun h => .inr (.inr (.inl h)))))⟩, ?_⟩
            · rw [HCx.out.2.2.1]
              unfold Dk.crash1
              rw [if_pos rfl, q1, hkk]
              exact HD3.out.1
            · show L.length - ((t : Int) + 1).toNat < L.length - (t : Int).toNat
              omega
        · subst hc0
          go_wp2_with fail
          refine ⟨⟨t + 1, hlt, by go_num, ?_, HCx.out.2.2.2.1⟩, ?_⟩
          · rw [HCx.out.2.2.1]
            unfold Dk.crash1
            rw [if_neg (by omega), if_pos rfl]
            exact HCx.out.2.1
          · show L.length - ((t : Int) + 1).toNat < L.length - (t : Int).toNat
            omega
        · have hz1 : decide (c > 0) = true := decide_eq_true (by omega)
          have hz2 : decide (c ≤ 1) = false := decide_eq_false (by omega)
          have hz3 : (c == 0) = false := by simp; omega
          obtain ⟨esb, cb, hmb, hrb, hvb⟩ := HCx.out.2.1.bads
          obtain ⟨w3, hup3, hmb3, x3⟩ := run_update_raw (P := Try.prog) (keyLaw_int Try.underlying3) hmb (M := 52) Try.underlying52 (kk : Int) (.bool true)
          have HD3 := hid (And.intro (HCx.out.2.1.rebad (kk : Int) hrb hvb hmb3 x3) x3)
          simp only [encI] at hup3
          clear hmb hrb hvb hmb3 x3
          go_wp2_with fail
          refine ⟨⟨t + 1, hlt, by go_num, ?_, HCx.out.2.2.2.1.trans' (HD3.out.2.mono (fun b _ h => .inr (.inr (.inl h))))⟩, ?_⟩
          · rw [HCx.out.2.2.1]
            unfold Dk.crash1
            rw [if_neg (by omega), if_neg (by omega), hkk]
            exact HD3.out.1
          · show L.length - ((t : Int) + 1).toNat < L.length - (t : Int).toNat
            omega
        · have hz1 : decide (c > 0) = false := decide_eq_false (by omega)
          have hz3 : (c == 0) = false := by simp; omega
          obtain ⟨esb, cb, hmb, hrb, hvb⟩ := HCx.out.2.1.bads
          obtain ⟨w3, hup3, hmb3, x3⟩ := run_update_raw (P := Try.prog) (keyLaw_int Try.underlying3) hmb (M := 52) Try.underlying52 (kk : Int) (.bool true)
          have HD3 := hid (And.intro (HCx.out.2.1.rebad (kk : Int) hrb hvb hmb3 x3) x3)
          simp only [encI] at hup3
          clear hmb hrb hvb hmb3 x3
          go_wp2_with fail
          refine ⟨⟨t + 1, hlt, by go_num, ?_, HCx.out.2.2.2.1.trans' (HD3.out.2.mono (fun b _ h => .inr (.inr (.inl h))))⟩, ?_⟩
          · rw [HCx.out.2.2.1]
            unfold Dk.crash1
            rw [if_neg (by omega), if_neg (by omega), hkk]
            exact HD3.out.1
          · show L.length - ((t : Int) + 1).toNat < L.length - (t : Int).toNat
            omega
    · obtain rfl : t = L.length := by omega
      have hd1 : decide ((L.length : Int) < (L.length : Int)) = false := decide_eq_false (by omega)
      rw [List.take_length] at hD
      obtain ⟨esv, cv, hmv, hrv, hvv⟩ := hD.vers
      obtain ⟨w3, hcl3, hm3, x3⟩ := run_clear_raw (P := Try.prog) hmv (M := 53) (ty := 0) Try.underlying53
      have hD3 := hD.unvers hm3 x3
      have c2 := hD.cell.cell (o := 2) rfl
      have hx4 : Ext (fun b => b = p.d) w3 ((w3.setCell ⟨p.d, 3, none⟩ (.bool false)).setCell ⟨p.d, 4, none⟩ (.int .i64 (-1))) := ((Ext.refl (fun b => b = p.d) w3).setCell (a := ⟨p.d, 3, none⟩) (.inl rfl) _).setCell (a := ⟨p.d, 4, none⟩) (.inl rfl) _
      have hD4 := hD3.recell hx4 false (-1) (by omega) (by
        have := (hD3.cell.set (o := 3) (.bool false)).set (o := 4) (.int .i64 (-1))
        simpa using this)
      have c3 := hD3.cell.cell (o := 3) rfl
      have f3 := hD3.cell.free 3
      have c4 : w3.cell? ⟨p.d, 4, none⟩ = _ := hD3.cell.cell (o := 4) rfl
      have f4 := hD3.cell.free 4
      have HF := hid (And.intro hD4 (And.intro x3 (And.intro hx4 hx)))
      clear hD hD3 hD4 hx4 hmv hrv hvv hm3 hx
      go_wp2_with fail
      go_end0
      have h9 := HF.out
      refine ⟨⟨_, rfl⟩, L, HL.out.1, HL.out.2.1, HL.out.2.2.1, ?_, ?_⟩
      · have h8 := h9.1
        unfold Dk.crashed
        exact h8
      · exact (((Ext.ofBelow HL.out.2.2.2.2).trans' h9.2.2.2).trans' (h9.2.1.mono (fun b _ h => .inr (.inr (.inr h))))).trans' (h9.2.2.1.mono (fun b _ h => .inl h))
end
end Go.Proofs.Ytpkaepmmkojdaaa
