import Derived.Test.YtbahjinlcbjikaaGreatQNt2
import Derived.Test.YtbahjinlcbjikaaGreatMQTwP
import Derived.Test.YtbahjinlcbjikaaGreatQTwQ
/-! Package net: Double. -/
namespace Go.Proofs.YtbahjinlcbjikaaGreat
open Go.RowKit

section
variable {W w2 : World} {q : NetP} {s : NetS}

set_option maxRecDepth 100000 in
set_option maxHeartbeats 6400000 in
theorem net_Double (h : NetAt W q s) (k : Nat) (to : Int) (b : List UInt8) (hk : s.late[k]? = some (to, b)) (hroom : (s.late.length + 1) * 32 ≤ 140737488355328) :
    Calls Tryz.prog 30 #[.pointer (some ⟨q.N, 0, none⟩), .int .i64 (k : Int)] W fun e w' => e = .returned (.bool true) ∧ NetPost W q ⟨s.luck, s.late ++ [(to, b)]⟩ w' := by
  obtain ⟨rs0, va, vc, _, _, _, hbl, _⟩ := h.row_at hk
  have HM := hid (net_Message h k to b hk)
  clear h hk
  go_enter Tryz.func30, Tryz.ntmps30
  go_wp2_with fail
  refine HM.out.mono ?_
  rintro e W1 ⟨v, rfl, ho, q', h1, hN, hq, hx, hvq⟩
  rw [← hN]
  have HN9 := hid hN
  clear hN
  obtain ⟨a8, c8, e8⟩ := ho.form
  subst e8
  obtain ⟨W2, hW2⟩ : ∃ W2, W1.alloc (.cells #[.int .i64 to, .slice a8 b.length c8] 120) = W2 := ⟨_, rfl⟩
  have bx : Below W1.heap.size W1 W2 := by rw [← hW2]; exact (Below.refl _ _).alloc (Nat.le_refl _) _
  have kx : Blk W2 W1.heap.size #[.int .i64 to, .slice a8 b.length c8] 120 := by rw [← hW2]; exact Blk.new _ _ _
  have h2 := h1.keep bx
  obtain ⟨rs, hms⟩ := h2.ms
  have hlen := hms.len
  have HPT := hid (mrow_put rs to (.slice a8 b.length c8) W1.heap.size 1 h2.net hms.row (fun e => h2.nmo (hms.own _ e)) ⟨_, _, _, rfl⟩ ⟨_, kx⟩ (by rw [hlen]; exact hroom))
  have HX := hid (And.intro h2 (And.intro hms (And.intro (ho.keep bx) (And.intro bx (And.intro h1 (And.intro hq (And.intro hx hvq)))))))
  clear h1 h2 hms hlen ho bx kx hq hx hvq
  go_wp2_with fail
  refine HPT.out.mono ?_
  rintro e W3 ⟨⟨x3, rfl⟩, tv', k1, k2, k3, k4⟩
  obtain ⟨a4, hms, ho, bx, h1, hq, hx, hvq⟩ := HX.out
  have hs1 := bx.size
  have hs3 := k4.size
  have hsW := hx.size
  have htN : ∀ g, tv'.ownBlock = some g → q'.tv.ownBlock = some g ∨ W2.heap.size ≤ g := fun g hg => k3.elim (fun e => .inl (by rw [← e]; exact hg)) (fun e => .inr (by rw [e] at hg; injection hg with hg; omega))
  have hno : ∀ k, (Value.slice a8 b.length c8).ownBlock = some k → ¬ q'.mo k := fun k hk hc => hvq k hk (.inr (.inr hc))
  have hov : ∀ k, (Value.slice a8 b.length c8).ownBlock = some k → W.heap.size ≤ k ∧ k < W2.heap.size := fun k hk => ho.blk k hk
  have hmlt : ∀ g, q'.mo g → g < W1.heap.size := fun g hg => by obtain ⟨rs1, hm1⟩ := h1.ms; exact hm1.lt g hg
  have hfin : NetPost W q ⟨s.luck, s.late ++ [(to, b)]⟩ W3 := by
    refine ⟨⟨q'.N, q'.lv, tv', fun g => q'.mo g ∨ (Value.slice a8 b.length c8).ownBlock = some g ∨ tv'.ownBlock = some g⟩, ⟨k1, a4.luck.ext k4 (fun k hk hc => ?_), ⟨rs ++ [(to, .slice a8 b.length c8)], ?_⟩, fun g hg => ?_, ?_⟩, HN9.out, ?_, ?_⟩
    · rcases hc with e | e
      · exact (a4.lvd k hk).1 e
      · exact (a4.lvd k hk).2 (hms.own k e)
    · refine hms.more k2 (ho.bs.ext k4 (fun k hk _ hc => ?_)) hbl (fun g hg => .inl hg) (fun g hg => ⟨.inr (.inr hg), ?_⟩) (fun g hg => ⟨.inr (.inl hg), fun hc => ?_⟩) ?_ k4 (fun b hb2 hc => ?_)
      · rcases hc with e | e
        · exact hvq k hk (.inl e)
        · exact hno k hk (hms.own k e)
      · rcases htN g hg with e | e
        · exact .inl e
        · exact .inr (fun hc => by have := hmlt g hc; omega)
      · rcases htN g hc with e | e
        · exact hno g hg (hms.own g e)
        · have h1 := (hov g hg).2; omega
      · rintro g (hg | hg | hg)
        · have := hmlt g hg; omega
        · have := (hov g hg).2; omega
        · exact k2.lt g hg
      · rcases hc with e | e
        · exact absurd (e ▸ hb2) a4.nmo
        · exact e
    · refine ⟨(a4.lvd g hg).1, fun hc => ?_⟩
      have hgl := h1.luck.lt g hg
      rcases hc with hc | hc | hc
      · exact (a4.lvd g hg).2 hc
      · exact hvq g hc (.inr (.inl hg))
      · rcases htN g hc with e | e
        · exact (a4.lvd g hg).2 (hms.own g e)
        · omega
    · intro hc
      have hNl := h1.net.lt
      rcases hc with hc | hc | hc
      · exact a4.nmo hc
      · exact hvq q'.N hc (.inl rfl)
      · rcases htN q'.N hc with e | e
        · exact a4.nmo (hms.own _ e)
        · omega
    · rintro g (hg | hg | hg | hg | hg)
      · exact hq g (.inl hg)
      · exact hq g (.inr (.inl hg))
      · exact hq g (.inr (.inr hg))
      · exact .inr (hov g hg).1
      · rcases htN g hg with e | e
        · exact hq g (.inr (.inr (hms.own g e)))
        · exact .inr (by omega)
    · refine (hx.then bx).trans k4 (fun g hg => ?_)
      rcases hg with e | e
      · exact hq g (.inl e)
      · exact hq g (.inr (.inr (hms.own g e)))
  have HF := hid hfin
  clear hfin k1 k2 k3 k4 a4 hms ho bx h1 hq hx hvq HX HPT htN hno hov hmlt hs1 hs3 hsW
  go_wp2_with fail
  go_ret
  exact ⟨rfl, HF.out⟩
end
end Go.Proofs.YtbahjinlcbjikaaGreat

/-! A link that lies from a world on, beside blocks that it does not touch; and what is done with it. -/
namespace Go.Proofs.YtbahjinlcbjikaaGreat
open Go.RowKit

/-- The link L holds s; the blocks O are none of its. -/
structure LkO (W w : World) (L : Nat) (s : LkS) (O : Nat → Prop) : Prop where
  below : Below W.heap.size W w
  lk : ∃ p, LkAt w L p s ∧ ∀ b, p.all L b → ¬ O b ∧ W.heap.size ≤ b
  small : ∀ b, O b → b < w.heap.size
abbrev notO (O : Nat → Prop) (b : Nat) : Prop := ¬ O b
section
variable {W w w2 : World} {L : Nat} {s : LkS} {O O' : Nat → Prop}
theorem LkO.size (h : LkO W w L s O) : W.heap.size ≤ w.heap.size := h.below.size
theorem LkO.sub (h : LkO W w L s O) (ho : ∀ b, O' b → O b) : LkO W w L s O' := by
  obtain ⟨h1, ⟨p, h2, h3⟩, h4⟩ := h
  exact ⟨h1, ⟨p, h2, fun b hb => ⟨fun hc => (h3 b hb).1 (ho b hc), (h3 b hb).2⟩⟩, fun b hb => h4 b (ho b hb)⟩
/-- More was laid; what is laid anew is none of the link's. -/
theorem LkO.more (h : LkO W w L s O) (hb : Below w.heap.size w w2) (ho : ∀ b, O' b → b < w2.heap.size ∧ (O b ∨ w.heap.size ≤ b)) : LkO W w2 L s O' := by
  obtain ⟨h1, ⟨p, h2, h3⟩, h4⟩ := h
  refine ⟨h1.trans (hb.mono h1.size), ⟨p, h2.keep hb, fun b hbb => ⟨fun hc => ?_, (h3 b hbb).2⟩⟩, fun b hb => (ho b hb).1⟩
  rcases (ho b hc).2 with h5 | h5
  · exact (h3 b hbb).1 h5
  · have := h2.size hbb; omega
theorem LkO.keep (h : LkO W w L s O) (hb : Below w.heap.size w w2) : LkO W w2 L s O := h.more hb (fun b hbb => ⟨Nat.lt_of_lt_of_le (h.small b hbb) hb.size, .inl hbb⟩)
/-- The arguments are none of the link's. -/
theorem LkO.args (h : LkO W w L s O) : LkO W w L s (fun b => O b ∨ b < W.heap.size) := by
  have hs := h.size
  obtain ⟨h1, ⟨p, h2, h3⟩, h4⟩ := h
  refine ⟨h1, ⟨p, h2, fun b hb => ⟨fun hc => ?_, (h3 b hb).2⟩⟩, fun b hb => hb.elim (h4 b) (fun h => by omega)⟩
  rcases hc with hc | hc
  · exact (h3 b hb).1 hc
  · have := (h3 b hb).2; omega
/-- Blocks of O are turned. -/
theorem LkO.turn (h : LkO W w L s O) {fp : Nat → Prop} (he : Ext fp w w2) (hf : ∀ b, fp b → O b ∧ W.heap.size ≤ b) : LkO W w2 L s O := by
  have hs := h.size
  obtain ⟨h1, ⟨p, h2, h3⟩, h4⟩ := h
  exact ⟨h1.trans (he.belowOf hs (fun b hb hc => by have := (hf b hc).2; omega)), ⟨p, h2.ext he (fun b hb hc => (h3 b hc).1 (hf b hb).1), h3⟩, fun b hb => Nat.lt_of_lt_of_le (h4 b hb) he.size⟩
theorem LkO.made {p : LkP} (h1 : LkAt w L p s) (h2 : Below W.heap.size W w) (h3 : ∀ b, p.all L b → W.heap.size ≤ b) (ho : ∀ b, O b → b < W.heap.size) : LkO W w L s O :=
  ⟨h2, ⟨p, h1, fun b hb => ⟨fun hc => by have := h3 b hb; have := ho b hc; omega, h3 b hb⟩⟩, fun b hb => Nat.lt_of_lt_of_le (ho b hb) h2.size⟩
theorem LkO.post {p : LkP} {s' : LkS} {w' : World} (h : LkO W w L s O) (h2 : LkAt w L p s) (h3 : ∀ b, p.all L b → ¬ O b ∧ W.heap.size ≤ b) (hp : LkPost w L p s' w') : LkO W w' L s' O ∧ Ext (notO O) w w' := by
  have hs := h.size
  obtain ⟨h1, _, h4⟩ := h
  obtain ⟨p', g1, g2, g3⟩ := hp
  refine ⟨⟨h1.trans (g3.belowOf hs (fun b hb hc => by have := (h3 b hc).2; omega)), ⟨p', g1, fun b hb => ?_⟩, fun b hb => Nat.lt_of_lt_of_le (h4 b hb) g3.size⟩, g3.mono (fun b _ hb => (h3 b hb).1)⟩
  rcases g2 b hb with h5 | h5
  · exact h3 b h5
  · exact ⟨fun hc => by have := h4 b hc; omega, by omega⟩
theorem LkO.cell0 (h : LkO W w L s O) : ∃ N, w.cell? ⟨L, 0, none⟩ = some (.pointer (some ⟨N, 0, none⟩)) ∧ w.cell? ⟨N, 2, none⟩ = some (.bool true) := by
  obtain ⟨_, ⟨p, h2, _⟩, _⟩ := h
  exact ⟨p.q.N, h2.link.cell (o := 0) rfl, h2.net.net.cell (o := 2) rfl⟩
section
variable (h : LkO W w L s O) (hpr : s.room 2200000000) (iz : Int) (nv : Value) (nodes : List Int) (hn : Is w nv nodes) (hnv : ∀ g, nv.ownBlock = some g → O g) (hnl : nodes.length ≤ 1073741824)
include h hpr hn hnv hnl
theorem lko_append (pos : Int) (dv : Value) (l : List UInt8) (hm : mayB s ⟨iz, nodes⟩ pos 4095 = true) (hl : l.length ≤ 65504) (hd : Bs w dv l) (hdv : ∀ g, dv.ownBlock = some g → O g) :
    Calls Tryz.prog 18 #[.pointer (some ⟨L, 0, none⟩), .agg #[.int .i64 iz, nv], .int .i64 pos, dv] w fun e w' => e = .returned (.int .i64 (appendL s ⟨iz, nodes⟩ pos l).1) ∧ LkO W w' L (appendL s ⟨iz, nodes⟩ pos l).2 O ∧ Ext (notO O) w w' := by
  obtain ⟨p, h2, h3⟩ := h.lk
  have hnot : ∀ g, O g → ¬ p.all L g ∧ g < w.heap.size := fun g hg => ⟨fun hc => (h3 g hc).1 hg, h.small g hg⟩
  refine (log_Append h2 (hpr.le (by omega)) iz nv nodes pos dv l hm hl hd (fun g hg => hnot g (hdv g hg)) hn hnl (fun g hg => hnot g (hnv g hg))).mono ?_
  rintro e w' ⟨rfl, hp⟩
  exact ⟨rfl, h.post h2 h3 hp⟩
theorem lko_trim (pos : Int) (hm : mayB s ⟨iz, nodes⟩ pos 4096 = true) :
    Calls Tryz.prog 21 #[.pointer (some ⟨L, 0, none⟩), .agg #[.int .i64 iz, nv], .int .i64 pos] w fun e w' => e = .returned (.int .i64 (trimL s ⟨iz, nodes⟩ pos).1) ∧ LkO W w' L (trimL s ⟨iz, nodes⟩ pos).2 O ∧ Ext (notO O) w w' := by
  obtain ⟨p, h2, h3⟩ := h.lk
  have hnot : ∀ g, O g → ¬ p.all L g ∧ g < w.heap.size := fun g hg => ⟨fun hc => (h3 g hc).1 hg, h.small g hg⟩
  refine (log_Trim h2 (hpr.le (by omega)) iz nv nodes pos hm hn hnl (fun g hg => hnot g (hnv g hg))).mono ?_
  rintro e w' ⟨rfl, hp⟩
  exact ⟨rfl, h.post h2 h3 hp⟩
theorem lko_seal (hm : mayB s ⟨iz, nodes⟩ 0 0 = true) :
    Calls Tryz.prog 20 #[.pointer (some ⟨L, 0, none⟩), .agg #[.int .i64 iz, nv]] w fun e w' => e = .returned (.tuple #[.int .i64 (sealL s ⟨iz, nodes⟩).1, .int .i64 (sealL s ⟨iz, nodes⟩).2.1]) ∧ LkO W w' L (sealL s ⟨iz, nodes⟩).2.2 O ∧ Ext (notO O) w w' := by
  obtain ⟨p, h2, h3⟩ := h.lk
  have hnot : ∀ g, O g → ¬ p.all L g ∧ g < w.heap.size := fun g hg => ⟨fun hc => (h3 g hc).1 hg, h.small g hg⟩
  refine (log_Seal h2 (hpr.le (by omega)) iz nv nodes hm hn hnl (fun g hg => hnot g (hnv g hg))).mono ?_
  rintro e w' ⟨rfl, hp⟩
  exact ⟨rfl, h.post h2 h3 hp⟩
theorem lko_repair (fa tb : Int) (hm : mayB s ⟨iz, nodes⟩ fa tb = true) (htb : tb ≤ 4096) (hok : placesOk ⟨iz, nodes⟩ (tb - fa).toNat s fa) :
    Calls Tryz.prog 24 #[.pointer (some ⟨L, 0, none⟩), .agg #[.int .i64 iz, nv], .int .i64 fa, .int .i64 tb] w fun e w' => e = .returned (.int .i64 (repairL s ⟨iz, nodes⟩ fa tb).1) ∧ LkO W w' L (repairL s ⟨iz, nodes⟩ fa tb).2 O ∧ Ext (notO O) w w' := by
  obtain ⟨p, h2, h3⟩ := h.lk
  have hnot : ∀ g, O g → ¬ p.all L g ∧ g < w.heap.size := fun g hg => ⟨fun hc => (h3 g hc).1 hg, h.small g hg⟩
  refine (log_Repair h2 hpr iz nv nodes fa tb hm htb hn hnl (fun g hg => hnot g (hnv g hg)) hok).mono ?_
  rintro e w' ⟨rfl, hp⟩
  exact ⟨rfl, h.post h2 h3 hp⟩
/-- What is read lies in a block of its own, that is none of the link's. -/
theorem lko_read (pos : Int) (hm : mayB s ⟨iz, nodes⟩ pos 4095 = true) :
    Calls Tryz.prog 19 #[.pointer (some ⟨L, 0, none⟩), .agg #[.int .i64 iz, nv], .int .i64 pos] w fun e w' => ∃ v, e = .returned (.tuple #[v, .int .i64 (readL s ⟨iz, nodes⟩ pos).2.1]) ∧ LkO W w' L (readL s ⟨iz, nodes⟩ pos).2.2 (fun b => O b ∨ v.ownBlock = some b) ∧ Ext (notO O) w w' ∧ Bs w' v (readL s ⟨iz, nodes⟩ pos).1 ∧ ∀ g, v.ownBlock = some g → w.heap.size ≤ g := by
  obtain ⟨p, h2, h3⟩ := h.lk
  have hnot : ∀ g, O g → ¬ p.all L g ∧ g < w.heap.size := fun g hg => ⟨fun hc => (h3 g hc).1 hg, h.small g hg⟩
  refine (log_Read h2 (hpr.le (by omega)) iz nv nodes pos hm hn hnl (fun g hg => hnot g (hnv g hg))).mono ?_
  rintro e w' ⟨v, p', rfl, g1, g2, g3, g4, g5⟩
  obtain ⟨k1, k2⟩ := h.post h2 h3 ⟨p', g1, g2, g3⟩
  refine ⟨v, rfl, ⟨k1.below, ⟨p', g1, fun b hb => ?_⟩, fun b hb => hb.elim (k1.small b) (fun e => (g5 b e).2.2)⟩, k2, g4, fun g hg => (g5 g hg).2.1⟩
  have hW : W.heap.size ≤ b := (g2 b hb).elim (fun h => (h3 b h).2) (fun hc => Nat.le_trans h.size hc)
  refine ⟨fun hc => ?_, hW⟩
  rcases hc with hc | hc
  · rcases g2 b hb with h5 | h5
    · exact (h3 b h5).1 hc
    · have := h.small b hc; omega
  · exact (g5 b hc).1 hb
end
end
/-- The block of a slice that is an argument. -/
theorem okWide_own {P : Program} {w : World} {r : Reach} {base : Nat} {t e : TypeId} (ht : P.underlying t = some (.slice e)) {a : Addr} {n c : Nat} (h : Value.okWide P w r base t (.slice (some a) n c)) : a.block < w.heap.size := by
  simp only [Value.okWide, ht, Cell.okWide, Cell.ok, World.has] at h
  obtain ⟨_, _, _, _, row, cells, hs, _⟩ := h
  unfold World.shape? at hs
  split at hs
  · rename_i hc
    exact (Array.getElem?_eq_some_iff.1 hc).1
  · cases hs
end Go.Proofs.YtbahjinlcbjikaaGreat

/-! Package loglet: Deliver; Luck, Double, Deliver beside blocks that the link does not touch. -/
namespace Go.Proofs.YtbahjinlcbjikaaGreat
open Go.RowKit

section
variable {W : World} {L : Nat} {p : LkP} {s : LkS}
set_option maxRecDepth 100000 in
set_option maxHeartbeats 6400000 in
theorem link_Deliver (h : LkAt W L p s) (k : Nat) (to : Int) (b : List UInt8) (hk : s.net.late[k]? = some (to, b)) (hbl : b.length ≤ 1000000) :
    Calls Tryz.prog 23 #[.pointer (some ⟨L, 0, none⟩), .int .i64 (k : Int)] W fun e w' => e = .returned (.bool true) ∧ LkPost W L p (deliverM s k (to, b)) w' := by
  have HT := hid (net_Take h.net k to b hk)
  have HN := hid (link_none h)
  have c0 := h.link.cell (o := 0) rfl
  have HP := hid h
  have hfew := h.few
  clear h hk
  go_enter Tryz.func23, Tryz.ntmps23
  go_wp2_with fail
  refine HN.out.mono ?_
  rintro e Wx ⟨rfl, hw⟩
  rw [hw]
  clear hw Wx HN
  go_wp2_with fail
  refine HT.out.mono ?_
  rintro e W1 ⟨v, rfl, ho, q', h1, hN, hq, hx, hvq⟩
  obtain ⟨a1, a2⟩ := HP.out.netted h1 hN hq hx
  obtain ⟨a8, c8, e8⟩ := ho.form
  subst e8
  have c1 := a1.link.cell (o := 1) rfl
  have HA := hid (And.intro a1 (And.intro a2 (And.intro (hx.mono (fun g _ hg => .inr (.inl hg)) : Ext (p.all L) W W1) ho)))
  clear h1 hN hq hx hvq c0 HT a1 a2 ho
  by_cases hin : 0 ≤ to ∧ to < s.nds.length
  · obtain ⟨i, rfl⟩ := Int.eq_ofNat_of_zero_le hin.1
    have hi : i < s.nds.length := by omega
    have hd1 : decide ((i : Int) ≥ 0) = true := decide_eq_true (by omega)
    have hd2 : decide ((i : Int) < (s.nds.length : Int)) = true := decide_eq_true hin.2
    obtain ⟨d, hd⟩ : ∃ d, s.nds[i]? = some d := ⟨s.nds[i], by simp⟩
    obtain ⟨vn, hvs, hnd⟩ := HA.out.1.nds i d hd
    have n1 : W1.cell? ⟨p.na, i, none⟩ = some vn := by
      obtain ⟨cs, hc, hcv⟩ := HA.out.1.arr
      exact hc.cell (hcv i vn hvs)
    have hi2 : (i : Int) < (s.nds.length : Int) := by omega
    have hdel : deliverM s k ((i : Int), b) = ⟨⟨s.net.luck, s.net.late.eraseIdx k⟩, s.nds.set i (askB d b)⟩ := by
      unfold deliverM
      simp only
      rw [if_pos hin, Int.toNat_natCast, List.getD_eq_getElem?_getD, hd]
      rfl
    have HDL := hid (And.intro hdel hd)
    have HVS := hid hvs
    clear hd hvs hdel hin
    cases d with
    | none =>
      have HOF := hid (show OffAt W1 vn by
        rcases hnd with h | ⟨n, pv, h1, h2, _⟩
        · exact .inl h
        · exact .inr ⟨n, pv, h1, h2⟩)
      have hvn : ∃ x, vn = .pointer x := by
        rcases hnd with h | ⟨n, pv, h1, h2, _⟩
        · exact ⟨_, h⟩
        · exact ⟨_, h1⟩
      obtain ⟨xn, rfl⟩ := hvn
      clear hnd
      go_wp2_with fail
      clear c1 n1
      refine (off_Ask HOF.out a8 b.length c8).mono ?_
      rintro e Wx ⟨rfl, hw⟩
      rw [hw]
      clear hw Wx
      go_wp2_with fail
      go_ret
      refine ⟨rfl, _, ?_, HA.out.2.1, HA.out.2.2.1⟩
      rw [HDL.out.1]
      show LkAt W1 L _ ⟨_, s.nds.set i none⟩
      rw [set_same HDL.out.2]
      exact HA.out.1
    | some SD =>
      obtain ⟨S, D⟩ := SD
      obtain ⟨n, pv, q, rfl, hN, hown⟩ := hnd
      have HN := hid hN
      have HOW := hid hown
      clear hN hown
      go_wp2_with fail
      clear c1 n1
      refine (node_Ask HN.out _ b HA.out.2.2.2.bs (by omega)).mono ?_
      rintro e W5 ⟨v5, rfl, o5, ⟨q5, hN5, hw5⟩, hx5⟩
      obtain ⟨p5, z1, _, _, _, z2⟩ := HA.out.1.node (i := i) hi HVS.out HOW.out hN5 hw5 hx5
      have HF := hid (show LkPost W L p (deliverM s k ((i : Int), b)) W5 from by
        have hs1 := HA.out.2.2.1.size
        refine ⟨p5, by rw [HDL.out.1]; exact z1, fun g hg => (z2 g hg).elim (HA.out.2.1 g) (fun h9 => .inr (by omega)), HA.out.2.2.1.trans hx5 (fun g hg => HA.out.2.1 g (.inr (.inr (.inr ⟨i, HOW.out g (.inr (.inl hg))⟩))))⟩)
      clear o5 hN5 hw5 hx5 z1 z2
      go_wp2_with fail
      go_ret
      exact ⟨rfl, HF.out⟩
  · have hdel : deliverM s k (to, b) = ⟨⟨s.net.luck, s.net.late.eraseIdx k⟩, s.nds⟩ := by
      unfold deliverM
      simp only
      rw [if_neg hin]
    have HDL := hid hdel
    have hfin : ∀ e : Ending, e = .returned (.bool true) → e = .returned (.bool true) ∧ LkPost W L p (deliverM s k (to, b)) W1 := fun e he => ⟨he, _, by rw [HDL.out]; exact HA.out.1, HA.out.2.1, HA.out.2.2.1⟩
    have HF := hid hfin
    clear hfin hdel
    by_cases h0 : 0 ≤ to
    · have hd1 : decide (to ≥ 0) = true := decide_eq_true h0
      have hd2 : decide (to < (s.nds.length : Int)) = false := decide_eq_false (by omega)
      clear hin
      go_wp2_with fail
      go_ret
      exact HF.out _ rfl
    · have hd1 : decide (to ≥ 0) = false := decide_eq_false (by omega)
      clear hin
      go_wp2_with fail
      go_ret
      exact HF.out _ rfl
theorem link_Double (h : LkAt W L p s) (k : Nat) (m : Int × List UInt8) (hk : s.net.late[k]? = some m) (hroom : s.room 1) :
    Calls Tryz.prog 30 #[.pointer (some ⟨p.q.N, 0, none⟩), .int .i64 (k : Int)] W fun e w' => e = .returned (.bool true) ∧ LkPost W L p (doubleM s m) w' := by
  refine (net_Double h.net k m.1 m.2 hk (by unfold LkS.room at hroom; omega)).mono ?_
  rintro e w' ⟨rfl, q', k1, k2, k3, k4⟩
  obtain ⟨g1, g2⟩ := h.netted k1 k2 k3 k4
  exact ⟨rfl, _, g1, g2, k4.mono (fun b _ hb => .inr (.inl hb))⟩
end
section
variable {W w : World} {L : Nat} {s : LkS} {O : Nat → Prop}
theorem lko_deliver (h : LkO W w L s O) (k : Nat) (m : Int × List UInt8) (hk : s.net.late[k]? = some m) (hbl : m.2.length ≤ 1000000) :
    Calls Tryz.prog 23 #[.pointer (some ⟨L, 0, none⟩), .int .i64 (k : Int)] w fun e w' => e = .returned (.bool true) ∧ LkO W w' L (deliverM s k m) O ∧ Ext (notO O) w w' := by
  obtain ⟨p, h2, h3⟩ := h.lk
  refine (link_Deliver h2 k m.1 m.2 hk hbl).mono ?_
  rintro e w' ⟨rfl, hp⟩
  exact ⟨rfl, h.post h2 h3 hp⟩
/-- The net's block. -/
def LkO.net (w : World) (L N : Nat) : Prop := w.cell? ⟨L, 0, none⟩ = some (.pointer (some ⟨N, 0, none⟩))
theorem lko_net {p : LkP} {N : Nat} (h : LkAt w L p s) (hN : LkO.net w L N) : p.q.N = N := by
  have h1 := h.link.cell (o := 0) rfl
  unfold LkO.net at hN
  rw [hN] at h1
  simp only [List.getElem_toArray, List.getElem_cons_zero, Option.some.injEq, Value.pointer.injEq, Addr.mk.injEq, and_true] at h1
  exact h1.symm
theorem lko_luck (h : LkO W w L s O) {N : Nat} (hN : LkO.net w L N) (v : Value) (m : List Int) (hv : Is w v m) (hl : (s.net.luck.length + m.length) * 8 ≤ 140737488355328) :
    Calls Tryz.prog 27 #[.pointer (some ⟨N, 0, none⟩), v] w fun e w' => (∃ x, e = .returned x) ∧ LkO W w' L (luckL s m) O ∧ Ext (notO O) w w' := by
  obtain ⟨p, h2, h3⟩ := h.lk
  have e := lko_net h2 hN
  subst e
  refine (link_Luck h2 v m hv hl).mono ?_
  rintro e w' ⟨hx, hp⟩
  exact ⟨hx, h.post h2 h3 hp⟩
theorem lko_double (h : LkO W w L s O) {N : Nat} (hN : LkO.net w L N) (k : Nat) (m : Int × List UInt8) (hk : s.net.late[k]? = some m) (hroom : s.room 1) :
    Calls Tryz.prog 30 #[.pointer (some ⟨N, 0, none⟩), .int .i64 (k : Int)] w fun e w' => e = .returned (.bool true) ∧ LkO W w' L (doubleM s m) O ∧ Ext (notO O) w w' := by
  obtain ⟨p, h2, h3⟩ := h.lk
  have e := lko_net h2 hN
  subst e
  refine (link_Double h2 k m hk hroom).mono ?_
  rintro e w' ⟨rfl, hp⟩
  exact ⟨rfl, h.post h2 h3 hp⟩
theorem lko_late (h : LkO W w L s O) {N : Nat} (hN : LkO.net w L N) :
    Calls Tryz.prog 29 #[.pointer (some ⟨N, 0, none⟩)] w fun e w' => e = .returned (.int .i64 (s.net.late.length : Int)) ∧ w' = w := by
  obtain ⟨p, h2, h3⟩ := h.lk
  have e := lko_net h2 hN
  subst e
  exact net_Late h2.net
theorem lko_made (h : LkO W w L s O) {N : Nat} (hN : LkO.net w L N) :
    Calls Tryz.prog 16 #[.pointer (some ⟨N, 0, none⟩)] w fun e w' => e = .returned (.bool true) ∧ w' = w := by
  obtain ⟨p, h2, h3⟩ := h.lk
  have e := lko_net h2 hN
  subst e
  exact net_Made h2.net.net
theorem LkO.netAt (h : LkO W w L s O) : ∃ N, LkO.net w L N := by
  obtain ⟨p, h2, _⟩ := h.lk
  exact ⟨p.q.N, h2.link.cell (o := 0) rfl⟩
theorem lko_begin {L : Nat} {p : LkP} {s : LkS} {W w : World} (h1 : LkAt w L p s) (h2 : Below W.heap.size W w) (h3 : ∀ b, p.all L b → W.heap.size ≤ b) : LkO W w L s (fun b => b < W.heap.size) :=
  LkO.made h1 h2 h3 (fun b h => h)
end
end Go.Proofs.YtbahjinlcbjikaaGreat
