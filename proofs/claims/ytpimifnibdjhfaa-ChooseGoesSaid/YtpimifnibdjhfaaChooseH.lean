/-
  Choosing: a round of the statement; what the document's and the program's share.
-/
import Derived.Test.YtpimifnibdjhfaaChooseG
import Derived.Test.YtpimifnibdjhfaaChooseL
import Derived.Test.YtpimifnibdjhfaaDocNewW
namespace Go.Proofs.Ytpimifnibdjhfaa.MemP
open Go.RowKit RefP CellP GateP
set_option linter.unusedVariables false
set_option linter.unusedSimpArgs false
theorem ownD_cands {w : World} {base : Nat} {a : Option Addr} {c : Nat} {l : List (Int × Int)} (h : OwnD w base a c l) (hr : ∀ x ∈ l, (0 ≤ x.1 ∧ x.1 ≤ 16) ∧ 0 ≤ x.2 ∧ x.2 ≤ 18446744073709551615) (hl : l.length ≤ 16) : Cands w a l :=
  ⟨h.read.row.congr fun i hi => by
    simp only [recF, candF, candG, at2], fun x hx => ⟨⟨by have := (hr x hx).1; omega, by have := (hr x hx).1; omega⟩, (hr x hx).2⟩, by omega⟩
theorem dtell_any (A T : Nat) (r : DRows) (s : CS) (a : Option Addr) (c : Nat) (w : World) (ok : Bool) (word ver : Int) (hth : s.th ≤ 16) (hk : s.Ok) (hO : ∃ b, OwnD w b a c s.L) :
    Calls Try.prog 17 #[.agg (dchA A T r s a c), .agg #[.bool ok, .int .u64 word, .int .u64 ver, .int .i64 0, .int .i64 0, .string ⟨#[]⟩, .string ⟨#[]⟩, .bool false, .int .i64 0, .slice none 0 0, .slice none 0 0, .slice none 0 0, .int .i64 0, .int .i64 0, .string ⟨#[]⟩, .int .u64 0, .slice none 0 0, .slice none 0 0, .slice none 0 0, .slice none 0 0, .int .i64 0, .string ⟨#[]⟩, .string ⟨#[]⟩, .int .u64 0, .int .i64 0]] w fun e w' => (∃ a' c', e = .returned (.agg (dchA A T r (s.tell word ver) a' c')) ∧ ((a' = a ∧ c' = c ∧ (s.tell word ver).L = s.L) ∨ OwnD w' w.heap.size a' c' (s.tell word ver).L)) ∧ Below w.heap.size w w' := by
  have ha := hk.at_
  have hlen := hk.len
  have hc : s.at_ = 0 ∨ s.at_ = 1 ∨ s.at_ = 2 ∨ s.at_ = 3 := by omega
  rcases hc with e | e | e | e
  · by_cases hz : word = 0
    · exact (dtell_0z A T r s a c w ok word ver hth e hz).mono fun e1 w1 h1 => ⟨⟨a, c, h1.1, .inl ⟨rfl, rfl, by rw [tell_0z e hz]⟩⟩, h1.2⟩
    · exact (dtell_0n A T r s a c w ok word ver hth e hz).mono fun e1 w1 h1 => ⟨⟨a, c, h1.1, .inl ⟨rfl, rfl, by rw [tell_0n e hz]⟩⟩, h1.2⟩
  · exact (dtell_1 A T r s a c w ok word ver hth e).mono fun e1 w1 h1 => ⟨⟨a, c, h1.1, .inl ⟨rfl, rfl, by rw [tell_1 e]⟩⟩, h1.2⟩
  · exact (dtell_2 A T r s a c w ok word ver hth e).mono fun e1 w1 h1 => ⟨⟨a, c, h1.1, .inl ⟨rfl, rfl, by rw [tell_2 e]⟩⟩, h1.2⟩
  · by_cases hd : s.done = 0
    · by_cases hv : ver = s.ver
      · obtain ⟨b, hb⟩ := hO
        exact (dtell_3y A T r s a c w ok word ver hth e hd hv (ownD_cands hb hk.L (by omega)) (by omega)).mono fun e1 w1 ⟨⟨g', c', h1, h2⟩, h3⟩ => ⟨⟨_, c', h1, .inr h2⟩, h3⟩
      · exact (dtell_3v A T r s a c w ok word ver hth e hd hv).mono fun e1 w1 h1 => ⟨⟨a, c, h1.1, .inl ⟨rfl, rfl, by rw [tell_3n e (fun q => hv q.1)]⟩⟩, h1.2⟩
    · exact (dtell_3d A T r s a c w ok word ver hth e hd).mono fun e1 w1 h1 => ⟨⟨a, c, h1.1, .inl ⟨rfl, rfl, by rw [tell_3n e (fun q => hd q.2)]⟩⟩, h1.2⟩
/-- how far a reply leads -/
theorem tell_pr {s : CS} {T : Nat} (x v : Int) (ha : s.at_ ≤ 3) (hT : s.th < T) : 4 * s.th + s.at_ + 1 ≤ 4 * (s.tell x v).th + (s.tell x v).at_ ∧ (s.tell x v).th ≤ T ∧ ((s.tell x v).th = T → (s.tell x v).at_ = 0) := by
  have hc : s.at_ = 0 ∨ s.at_ = 1 ∨ s.at_ = 2 ∨ s.at_ = 3 := by omega
  rcases hc with e | e | e | e
  · by_cases hz : x = 0
    · rw [tell_0z e hz]; simp only; omega
    · rw [tell_0n e hz]; simp only; omega
  · rw [tell_1 e]; simp only; omega
  · rw [tell_2 e]; simp only; omega
  · by_cases hy : v = s.ver ∧ s.done = 0
    · rw [tell_3y e hy]; exact ⟨by show 4 * s.th + s.at_ + 1 ≤ 4 * (s.th + 1) + 0; omega, by show s.th + 1 ≤ T; omega, fun _ => rfl⟩
    · rw [tell_3n e hy]; exact ⟨by show 4 * s.th + s.at_ + 1 ≤ 4 * (s.th + 1) + 0; omega, by show s.th + 1 ≤ T; omega, fun _ => rfl⟩
/-- in a round: the memory, the task (s) and the document's (s2, in block td) -/
structure Rg (w0 : World) (base o oc g gb gr A T : Nat) (L : List (Int × Int)) (bs rs : List (List Value)) (t td : Nat) (r : DRows) (s : CS) (a : Option Addr) (c : Nat) (s2 : CS) (a2 : Option Addr) (c2 : Nat) (wr : World) : Prop where
  b : Below w0.heap.size w0 wr
  m : MemB wr base o oc g gb gr A T L bs rs
  ch : ChAt wr base o t s a c
  d : Blk wr td (dchA A T r s2 a2 c2) 40
  own : OwnD wr base a2 c2 s2.L
  dge : base ≤ td
  n1 : t ≠ td
  n2 : ∀ q, (Value.slice a s.L.length c).ownBlock = some q → q ≠ td
  n3 : ∀ q, (Value.slice a2 s2.L.length c2).ownBlock = some q → q ≠ t ∧ q ≠ td ∧ (Value.slice a s.L.length c).ownBlock ≠ some q
  hs : base ≤ wr.heap.size
  h0 : w0.heap.size ≤ base
theorem Rg.under {w0 : World} {base o oc g gb gr A T : Nat} {L : List (Int × Int)} {bs rs : List (List Value)} {t td : Nat} {r : DRows} {s : CS} {a : Option Addr} {c : Nat} {s2 : CS} {a2 : Option Addr} {c2 : Nat} {wr wx : World} (h : Rg w0 base o oc g gb gr A T L bs rs t td r s a c s2 a2 c2 wr) (hb : Below wr.heap.size wr wx) : Rg w0 base o oc g gb gr A T L bs rs t td r s a c s2 a2 c2 wx :=
  ⟨below_push2 h.b hb (Nat.le_refl _), h.m.under hb, h.ch.under hb, h.d.below hb, OwnR.below h.own hb, h.dge, h.n1, h.n2, h.n3, Nat.le_trans h.hs hb.size, h.h0⟩
theorem MemB.fr {w w' : World} {S : List Nat} {base o oc g gb gr A T : Nat} {L : List (Int × Int)} {bs rs : List (List Value)} (h : MemB w base o oc g gb gr A T L bs rs) (F : Fr S w w') (hS : ∀ b ∈ S, base ≤ b) (hs : base ≤ w.heap.size) : MemB w' base o oc g gb gr A T L bs rs :=
  h.below (F.below (Below.refl base w) hs hS) hs
/-- the task was told -/
theorem Rg.told {w0 : World} {base o oc g gb gr A T : Nat} {L : List (Int × Int)} {bs rs : List (List Value)} {t td : Nat} {r : DRows} {s s' : CS} {a a' : Option Addr} {c c' : Nat} {s2 : CS} {a2 : Option Addr} {c2 : Nat} {wr wx : World} (h : Rg w0 base o oc g gb gr A T L bs rs t td r s a c s2 a2 c2 wr) (hC : ChAt wx base o t s' a' c')
    (hn : ∀ q, (Value.slice a' s'.L.length c').ownBlock = some q → (Value.slice a s.L.length c).ownBlock = some q ∨ wr.heap.size ≤ q) (F : Fr (ownS t a s.L.length c) wr wx) : Rg w0 base o oc g gb gr A T L bs rs t td r s' a' c' s2 a2 c2 wx := by
  have hS : ∀ b ∈ ownS t a s.L.length c, base ≤ b := fun b hb => by
    rcases mem_ownS_iff.1 hb with e | e
    · rw [e]; exact h.ch.ge
    · exact (OwnR.lt h.ch.own b e).1
  have hd : td ∉ ownS t a s.L.length c := fun hm => by
    rcases mem_ownS_iff.1 hm with e | e
    · exact h.n1 e.symm
    · exact h.n2 td e rfl
  have hlt := h.d.lt
  refine ⟨F.below h.b (Nat.le_refl _) (fun b hb => Nat.le_trans h.h0 (hS b hb)), h.m.fr F hS h.hs, hC, F.blk h.d hd, ?_, h.dge, h.n1, ?_, ?_, Nat.le_trans h.hs F.size, h.h0⟩
  · refine OwnR.heap h.own fun q hq => F.block q (OwnR.lt h.own q hq).2 fun hm => ?_
    have := h.n3 q hq
    rcases mem_ownS_iff.1 hm with e | e
    · exact this.1 e
    · exact this.2.2 e
  · intro q hq
    rcases hn q hq with e | e
    · exact h.n2 q e
    · omega
  · intro q hq
    have h3 := h.n3 q hq
    have hl := (OwnR.lt h.own q hq).2
    refine ⟨h3.1, h3.2.1, fun e => ?_⟩
    rcases hn q e with e' | e'
    · exact h3.2.2 e'
    · omega
/-- the document's was told, and is kept -/
theorem Rg.dtold {w0 : World} {base o oc g gb gr A T : Nat} {L : List (Int × Int)} {bs rs : List (List Value)} {t td : Nat} {r : DRows} {s : CS} {a : Option Addr} {c : Nat} {s2 s2' : CS} {a2 a2' : Option Addr} {c2 c2' : Nat} {wr wx : World} (h : Rg w0 base o oc g gb gr A T L bs rs t td r s a c s2 a2 c2 wr) (hb : Below wr.heap.size wr wx)
    (ho : (a2' = a2 ∧ c2' = c2 ∧ s2'.L = s2.L) ∨ OwnD wx wr.heap.size a2' c2' s2'.L) : Rg w0 base o oc g gb gr A T L bs rs t td r s a c s2' a2' c2' (wx.setRow td (dchA A T r s2' a2' c2')) := by
  have hx := h.under hb
  have F : Fr [td] wx (wx.setRow td (dchA A T r s2' a2' c2')) := Fr.row td _ (by simp)
  have hS : ∀ b ∈ [td], base ≤ b := fun b hb => by rw [List.mem_singleton.1 hb]; exact h.dge
  have hlt := h.d.lt
  have hct := h.ch.head.lt
  refine ⟨F.below hx.b (Nat.le_refl _) (fun b hb => Nat.le_trans h.h0 (hS b hb)), hx.m.fr F hS hx.hs, ?_, Blk.row hx.d _, ?_, h.dge, h.n1, h.n2, ?_, Nat.le_trans hx.hs F.size, h.h0⟩
  · exact ⟨F.blk hx.ch.head (by simpa using h.n1), OwnR.heap hx.ch.own fun q hq => F.block q (OwnR.lt hx.ch.own q hq).2 (by simpa using h.n2 q hq), h.ch.ge, h.ch.ne, h.ch.ok⟩
  · rcases ho with ⟨e1, e2, e3⟩ | ho
    · subst e1 e2
      rw [e3]
      exact OwnR.heap hx.own fun q hq => F.block q (OwnR.lt hx.own q hq).2 (by simpa using (h.n3 q hq).2.1)
    · refine OwnR.lower (OwnR.heap ho fun q hq => F.block q (OwnR.lt ho q hq).2 ?_) h.hs
      have := (OwnR.lt ho q hq).1
      simp; omega
  · rcases ho with ⟨e1, e2, e3⟩ | ho
    · rw [e1, e2, e3]; exact h.n3
    · intro q hq
      have := (OwnR.lt ho q hq).1
      refine ⟨by omega, by omega, fun e => ?_⟩
      have := (OwnR.lt h.ch.own q e).2
      omega
/-- the memory was written -/
theorem Rg.wrote {w0 : World} {base o oc g gb gr A T : Nat} {L L' : List (Int × Int)} {bs bs' rs : List (List Value)} {t td : Nat} {r : DRows} {s : CS} {a : Option Addr} {c : Nat} {s2 : CS} {a2 : Option Addr} {c2 : Nat} {wr wx : World} (h : Rg w0 base o oc g gb gr A T L bs rs t td r s a c s2 a2 c2 wr) (hm : MemAt wx o oc g gb gr A T L' bs' rs) (F : Fr [g, gb] wr wx) (hg : w0.heap.size ≤ g ∧ w0.heap.size ≤ gb) :
    Rg w0 base o oc g gb gr A T L' bs' rs t td r s a c s2 a2 c2 wx := by
  have hS : ∀ b ∈ [g, gb], b < base := fun b hb => by
    have := h.m.lo
    rcases List.mem_cons.1 hb with e | e
    · omega
    · rw [List.mem_singleton.1 e]; omega
  have hge := h.dge
  refine ⟨F.below h.b (Nat.le_refl _) (fun b hb => ?_), ⟨hm, h.m.lo⟩, h.ch.fr F hS, F.blk h.d (fun hmm => by have := hS td hmm; omega), OwnR.fr h.own F hS, h.dge, h.n1, h.n2, h.n3, Nat.le_trans h.hs F.size, h.h0⟩
  rcases List.mem_cons.1 hb with e | e
  · omega
  · rw [List.mem_singleton.1 e]; omega
end Go.Proofs.Ytpimifnibdjhfaa.MemP
