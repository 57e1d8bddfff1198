/-
  ForestPlays: the acts, what lies in memory between two acts.
-/
import Derived.Test.YtbemgfpnoeogdaaFLike
import Derived.Test.YtbemgfpnoeogdaaLightW
import Derived.Test.YtbemgfpnoeogdaaDeepSame
import Derived.Test.YtbemgfpnoeogdaaApiOpen
namespace Go.Proofs.Ytbemgfpnoeogdaa.FoP
open Go.RowKit RefP Go.Maps Dp
set_option linter.unusedVariables false
set_option linter.unusedSimpArgs false
abbrev KnV := Int × Int × Int × NodeV × Unit
def knT : Cod KnV := pairC i64C (pairC u64C (pairC u64C (pairC nodeT unitC)))
abbrev ActV := Int × Int × KnV × Unit
def actT : Cod ActV := pairC i64C (pairC i64C (pairC knT unitC))
theorem op_kn : Ox Try.prog 53 knT := ox_struct Try.underlying53 (by kernel_rfl) (ox_cons rfl (by kernel_rfl) op_i64 (ox_cons rfl (by kernel_rfl) op_u64 (ox_cons rfl (by kernel_rfl) op_u64 (ox_cons rfl (by kernel_rfl) op_node ox_nil))))
theorem op_act : Ox Try.prog 68 actT := ox_struct Try.underlying68 (by kernel_rfl) (ox_cons rfl (by kernel_rfl) op_i64 (ox_cons rfl (by kernel_rfl) op_i64 (ox_cons rfl (by kernel_rfl) op_kn ox_nil)))
/-- the cells of a known -/
abbrev knA (q : NodeH) (y : KnV) : Array Value := k11 y.1 (.int .u64 y.2.1) (.int .u64 y.2.2.1) (.int .i64 y.2.2.2.1.level) (.string y.2.2.2.1.low) (.string y.2.2.2.1.high) (.bool y.2.2.2.1.last) (.int .i64 y.2.2.2.1.next) (.slice q.keys.a y.2.2.2.1.keys.length q.keys.c) (.slice q.vals.a y.2.2.2.1.vals.length q.vals.c) (.slice q.kids.a y.2.2.2.1.kids.length q.kids.c)
structure KnOk (w : World) (S : List Nat) (q : NodeH) (y : KnV) : Prop where
  cell : I64 y.1
  word : U64 y.2.1
  ver : U64 y.2.2.1
  node : NodeOk w S q y.2.2.2.1
theorem kn_of {w : World} {S : List Nat} {cs : List Value} {y : KnV} (h : knT.rep w S cs y) : ∃ q, cs = (knA q y).toList ∧ KnOk w S q y := by
  obtain ⟨_, _, rfl, ⟨rfl, h0⟩, _, _, rfl, ⟨rfl, h1⟩, _, _, rfl, ⟨rfl, h2⟩, _, _, rfl, h3, rfl⟩ := h
  obtain ⟨q, rfl, hn⟩ := nodeT_of h3
  exact ⟨q, rfl, I64.of h0, U64.of h1, U64.of h2, hn⟩
theorem act_of {w : World} {S : List Nat} {cs : List Value} {x : ActV} (h : actT.rep w S cs x) : ∃ q, cs = .int .i64 x.1 :: .int .i64 x.2.1 :: (knA q x.2.2.1).toList ∧ I64 x.1 ∧ I64 x.2.1 ∧ KnOk w S q x.2.2.1 := by
  obtain ⟨_, _, rfl, ⟨rfl, h0⟩, _, _, rfl, ⟨rfl, h1⟩, _, _, rfl, h2, rfl⟩ := h
  obtain ⟨q, rfl, hk⟩ := kn_of h2
  exact ⟨q, by simp, I64.of h0, I64.of h1, hk⟩
theorem act_at {w : World} {S : List Nat} {h : Hd} {xs : List ActV} (H : HRow actT w S h xs) (i : Nat) (hi : i < xs.length) : ∃ b off q, h.a = some ⟨b, off, none⟩ ∧ b < w.heap.size ∧ w.rangeAt b (off + i * 13) (.int .i64 xs[i].1 :: .int .i64 xs[i].2.1 :: (knA q xs[i].2.2.1).toList) ∧ I64 xs[i].1 ∧ I64 xs[i].2.1 ∧ KnOk w S q xs[i].2.2.1 := by
  obtain ⟨b, off, e, hb, _, hc⟩ := H.row (by omega)
  obtain ⟨cs, hr, hv⟩ := hc i xs[i] (List.getElem?_eq_getElem hi)
  obtain ⟨q, rfl, h0, h1, h2⟩ := act_of hr
  exact ⟨b, off, q, e, hb, hv, h0, h1, h2⟩
theorem knA_one (q : NodeH) (y : KnV) : (knA q y).size = 11 ∧ (knA q y).all (·.oneCell') = true := ⟨rfl, by kernel_rfl⟩
/-- what avoids what the law writes -/
abbrev avo (o m ob' : Nat) (a : Option Addr) : List Nat := o :: m :: ob' :: ob a
/-- between two acts -/
structure PS (w0 wr : World) (o m B : Nat) (L : List Kn) (a : Option Addr) (c : Nat) (S : List Sp) (k0 n0 : Int) (kh sh : Hd) : Prop where
  b : Below w0.heap.size w0 wr
  V : VwAt wr w0.heap.size o m L a c S k0 n0
  blk : Blk wr B (rvA kh sh L.length S.length k0 n0) 58
  kn : HRow (rawC 11) wr (avo o m B a) kh (knL L)
  sp : HRow spC wr (avo o m B a) sh S
  node : ∀ p ∈ L, ∃ q y, p.2 = knA q y ∧ y.1 = p.1 ∧ KnOk w0 [] q y ∧ cellB p.1 = true
  ll : L.length ≤ 100
  sl : S.length ≤ 100
  ge : w0.heap.size ≤ B ∧ B ≠ o ∧ B ≠ m ∧ B ∉ ob a
theorem PS.rv {w0 wr : World} {o m B : Nat} {L : List Kn} {a : Option Addr} {c : Nat} {S : List Sp} {k0 n0 : Int} {kh sh : Hd} (P : PS w0 wr o m B L a c S k0 n0 kh sh) : RV wr kh sh L S :=
  ⟨P.kn.more (by simp), P.sp.more (by simp), fun p hp => by
    obtain ⟨q, y, h1, h2, _⟩ := P.node p hp
    rw [h1, ← h2]; rfl, fun p hp => by
    obtain ⟨q, y, h1, _⟩ := P.node p hp
    rw [h1]; exact knA_one q y, P.ll, P.sl⟩
theorem PS.cells {w0 wr : World} {o m B : Nat} {L : List Kn} {a : Option Addr} {c : Nat} {S : List Sp} {k0 n0 : Int} {kh sh : Hd} (P : PS w0 wr o m B L a c S k0 n0 kh sh) : ∀ p ∈ L, cellB p.1 = true := fun p hp => by
  obtain ⟨q, y, _, _, _, h⟩ := P.node p hp
  exact h
theorem PS.under {w0 wr w' : World} {o m B : Nat} {L : List Kn} {a : Option Addr} {c : Nat} {S : List Sp} {k0 n0 : Int} {kh sh : Hd} (P : PS w0 wr o m B L a c S k0 n0 kh sh) (hb : Below wr.heap.size wr w') : PS w0 w' o m B L a c S k0 n0 kh sh :=
  ⟨below_push2 P.b hb (Nat.le_refl _), P.V.under hb, P.blk.below hb, P.kn.keep (Keeps.of_below hb), P.sp.keep (Keeps.of_below hb), P.node, P.ll, P.sl, P.ge⟩
end Go.Proofs.Ytbemgfpnoeogdaa.FoP
