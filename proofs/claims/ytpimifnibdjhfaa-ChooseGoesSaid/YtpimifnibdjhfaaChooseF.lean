/-
  Choosing, the document's Tell: a candidate is added: contract.
-/
import Derived.Test.YtpimifnibdjhfaaChooseE
import Derived.Deep.RegionHeldLaw
import Derived.Deep.RegionLaw
namespace Go.Proofs.Ytpimifnibdjhfaa.MemP
open Go.RowKit RefP CellP GateP
set_option linter.unusedVariables false
set_option linter.unusedSimpArgs false
theorem infoCandD : (Try.prog.info? 91).map (fun i => (i.zero, i.size, i.bytes)) = some (some (.agg #[.int .i64 0, .int .u64 0]), 2, 16) := by kernel_rfl
abbrev OwnD (w : World) (base : Nat) (a : Option Addr) (c : Nat) (l : List (Int × Int)) : Prop := OwnR 2 candG (0, 0) w base 91 a c l
abbrev AddD (w : World) (base : Nat) (a : Option Addr) (c : Nat) (l : List (Int × Int)) (v : Value) (m : Nat) (l' : List (Int × Int)) (g cap : Nat) (w' : World) : Prop := AddedR Try.prog 2 candG (0, 0) w base 38 91 a c l v m l' g cap w'
theorem two (j : Nat) (hj : j < 2) : j = 0 ∨ j = 1 := by omega
theorem addD {w : World} (base g0 : Nat) {c : Nat} {l : List (Int × Int)} (h : OwnD w base (some ⟨g0, 0, none⟩) c l) {b : Option Addr} (c' : Nat) {xs : List (Int × Int)} (hx : RecS 2 candG (0, 0) w b xs) (hn : l.length + xs.length ≤ 60000) (hbase : base ≤ w.heap.size) :
    ∃ g cap w', AddD w base (some ⟨g0, 0, none⟩) c l (.slice b xs.length c') xs.length (l ++ xs) g cap w' := by
  obtain ⟨i0, hi, hz0, hz1, hz2⟩ := info_parts' infoCandD
  by_cases h0 : xs.length = 0
  · obtain rfl : xs = [] := List.eq_nil_of_length_eq_zero h0
    refine ⟨g0, c, w, ?_⟩
    rw [List.append_nil]
    exact addRecs_zero base g0 _ _ i0 Try.underlying38 hi h b c'
  · exact addRecs base _ _ i0 _ 16 Try.underlying38 hi hz0 hz1 hz2 (by simp [Value.cells]) (by omega) (fun _ j hj => by rcases two j hj with e | e <;> subst e <;> rfl) h hx (by omega) (by simp [maxLen]; omega) (by omega) hbase
theorem recs_of_cands {w : World} {a : Option Addr} {l : List (Int × Int)} (h : Cands w a l) : RecS 2 candG (0, 0) w a l :=
  ⟨h.row.congr fun i hi => by simp only [recF, candF, candG, at2]⟩
/-- behind both appends -/
structure FinD (w : World) (C : Array Value) (l' : List (Int × Int)) (g cap : Nat) (V2 V3 V4 : World) : Prop where
  c2 : Blk V2 w.heap.size C 40
  c3 : Blk V3 w.heap.size C 40
  c4 : Blk V4 w.heap.size C 40
  r4 : Blk V4 (w.heap.size + 2) dchZ 40
  b4 : Below w.heap.size w V4
  own : OwnD V4 (w.heap.size + 3) (some ⟨g, 0, none⟩) cap l'
theorem finD {w V1 V2 V3 V4 : World} {C : Array Value} {e0 : Nat} {v v2 : Value} {n m : Nat} {l l' : List (Int × Int)} {g1 c1 g cap : Nat} (hC : Blk V1 w.heap.size C 40) (hR : Blk V1 (w.heap.size + 2) dchZ 40) (hB : Below w.heap.size w V1)
    (hO : OwnD V1 (w.heap.size + 3) (some ⟨e0, 0, none⟩) 0 []) (K1 : AddD V1 (w.heap.size + 3) (some ⟨e0, 0, none⟩) 0 [] v n l g1 c1 V2) (hb : Below V2.heap.size V2 V3) (K2 : AddD V3 (w.heap.size + 3) (some ⟨g1, 0, none⟩) c1 l v2 m l' g cap V4) : FinD w C l' g cap V2 V3 V4 := by
  have h1 := fun q e => (OwnR.lt hO q e).1
  have hs := hR.lt
  have C2 := hC.grown K1.grown (fun e => by have := h1 _ e.symm; omega)
  have R2 := hR.grown K1.grown (fun e => by have := h1 _ e.symm; omega)
  have B2 := K1.keeps h1 w w.heap.size (by omega) hB (by omega)
  have hO3 := OwnR.below K1.own hb
  have h3 := fun q e => (OwnR.lt hO3 q e).1
  have C3 := C2.below hb
  have R3 := R2.below hb
  have B3 := below_push2 B2 hb (Nat.le_refl _)
  exact ⟨C2, C3, C3.grown K2.grown (fun e => by have := h3 _ e.symm; omega), R3.grown K2.grown (fun e => by have := h3 _ e.symm; omega), K2.keeps h3 w w.heap.size (by omega) B3 (by have := R3.lt; omega), K2.own⟩
theorem ownR_offrow {α : Type} {k : Nat} {f : α → Nat → Value} {d : α} {w : World} {base : Nat} {e : TypeId} {a : Option Addr} {c : Nat} {l : List α} (h : OwnR k f d w base e a c l) (t : Nat) (cs : Array Value) (hne : (Value.slice a l.length c).ownBlock ≠ some t) : OwnR k f d (w.setRow t cs) base e a c l :=
  h.kept (row := some t) ⟨rfl, rfl, rfl, by simp, fun j _ hk => setRow_other w t j cs (fun e => hk (by rw [e]))⟩ (.inr hne)
set_option maxRecDepth 100000 in
set_option maxHeartbeats 12800000 in
theorem dtell_3y (A T : Nat) (r : DRows) (s : CS) (a : Option Addr) (c : Nat) (w : World) (ok : Bool) (word ver : Int) (hth : s.th ≤ 16) (he : s.at_ = 3) (hx : s.done = 0) (hv : ver = s.ver) (hL : Cands w a s.L) (hl : s.L.length ≤ 20) :
    Calls Try.prog 17 #[.agg (dchA A T r s a c), .agg #[.bool ok, .int .u64 word, .int .u64 ver, .int .i64 0, .int .i64 0, .string ⟨#[]⟩, .string ⟨#[]⟩, .bool false, .int .i64 0, .slice none 0 0, .slice none 0 0, .slice none 0 0, .int .i64 0, .int .i64 0, .string ⟨#[]⟩, .int .u64 0, .slice none 0 0, .slice none 0 0, .slice none 0 0, .slice none 0 0, .int .i64 0, .string ⟨#[]⟩, .string ⟨#[]⟩, .int .u64 0, .int .i64 0]] w fun e w' => (∃ g' c', e = .returned (.agg (dchA A T r (s.tell word ver) (some ⟨g', 0, none⟩) c')) ∧ OwnD w' w.heap.size (some ⟨g', 0, none⟩) c' (s.tell word ver).L) ∧ Below w.heap.size w w' := by
  rw [tell_3y (x := word) he ⟨hv, hx⟩]
  have hq : (s.done == 0) = true := by simpa using hx
  have hq2 : (ver == s.ver) = true := by simpa using hv
  have hw : IntKind.i64.wrap ((s.th : Int) + 1) = (s.th : Int) + 1 := by rw [IntKind.wrap_i64]; omega
  clear hx hv
  have hB : Below w.heap.size w (((w.alloc (.cells (dchA A T r s a c) 40)).alloc (.cells #[.bool ok, .int .u64 word, .int .u64 ver, .int .i64 0, .int .i64 0, .string ⟨#[]⟩, .string ⟨#[]⟩, .bool false, .int .i64 0, .slice none 0 0, .slice none 0 0, .slice none 0 0, .int .i64 0, .int .i64 0, .string ⟨#[]⟩, .int .u64 0, .slice none 0 0, .slice none 0 0, .slice none 0 0, .slice none 0 0, .int .i64 0, .string ⟨#[]⟩, .string ⟨#[]⟩, .int .u64 0, .int .i64 0] 66)).alloc (.cells dchZ 40)) := by (repeat (first | exact Below.refl _ _ | assumption | refine below_alloc2 ?_ (by first | exact Nat.le_refl _ | omega) _ | refine Below.drew ?_ | refine below_drewN ?_ _ | refine below_push2 ?_ ‹_› (by first | exact Nat.le_refl _ | omega) | refine Below.setCell ?_ (by first | (simp; done) | (simp; omega) | omega) _))
  have BC := ((Blk.new w (dchA A T r s a c) 40).alloc (.cells #[.bool ok, .int .u64 word, .int .u64 ver, .int .i64 0, .int .i64 0, .string ⟨#[]⟩, .string ⟨#[]⟩, .bool false, .int .i64 0, .slice none 0 0, .slice none 0 0, .slice none 0 0, .int .i64 0, .int .i64 0, .string ⟨#[]⟩, .int .u64 0, .slice none 0 0, .slice none 0 0, .slice none 0 0, .slice none 0 0, .int .i64 0, .string ⟨#[]⟩, .string ⟨#[]⟩, .int .u64 0, .int .i64 0] 66)).alloc (.cells dchZ 40)
  have BQ : Blk (((w.alloc (.cells (dchA A T r s a c) 40)).alloc (.cells #[.bool ok, .int .u64 word, .int .u64 ver, .int .i64 0, .int .i64 0, .string ⟨#[]⟩, .string ⟨#[]⟩, .bool false, .int .i64 0, .slice none 0 0, .slice none 0 0, .slice none 0 0, .int .i64 0, .int .i64 0, .string ⟨#[]⟩, .int .u64 0, .slice none 0 0, .slice none 0 0, .slice none 0 0, .slice none 0 0, .int .i64 0, .string ⟨#[]⟩, .string ⟨#[]⟩, .int .u64 0, .int .i64 0] 66)).alloc (.cells dchZ 40)) (w.heap.size + 1) #[.bool ok, .int .u64 word, .int .u64 ver, .int .i64 0, .int .i64 0, .string ⟨#[]⟩, .string ⟨#[]⟩, .bool false, .int .i64 0, .slice none 0 0, .slice none 0 0, .slice none 0 0, .int .i64 0, .int .i64 0, .string ⟨#[]⟩, .int .u64 0, .slice none 0 0, .slice none 0 0, .slice none 0 0, .slice none 0 0, .int .i64 0, .string ⟨#[]⟩, .string ⟨#[]⟩, .int .u64 0, .int .i64 0] 66 := by
    have := (Blk.new (w.alloc (.cells (dchA A T r s a c) 40)) #[.bool ok, .int .u64 word, .int .u64 ver, .int .i64 0, .int .i64 0, .string ⟨#[]⟩, .string ⟨#[]⟩, .bool false, .int .i64 0, .slice none 0 0, .slice none 0 0, .slice none 0 0, .int .i64 0, .int .i64 0, .string ⟨#[]⟩, .int .u64 0, .slice none 0 0, .slice none 0 0, .slice none 0 0, .slice none 0 0, .int .i64 0, .string ⟨#[]⟩, .string ⟨#[]⟩, .int .u64 0, .int .i64 0] 66).alloc (.cells dchZ 40)
    simpa using this
  have BR : Blk (((w.alloc (.cells (dchA A T r s a c) 40)).alloc (.cells #[.bool ok, .int .u64 word, .int .u64 ver, .int .i64 0, .int .i64 0, .string ⟨#[]⟩, .string ⟨#[]⟩, .bool false, .int .i64 0, .slice none 0 0, .slice none 0 0, .slice none 0 0, .int .i64 0, .int .i64 0, .string ⟨#[]⟩, .int .u64 0, .slice none 0 0, .slice none 0 0, .slice none 0 0, .slice none 0 0, .int .i64 0, .string ⟨#[]⟩, .string ⟨#[]⟩, .int .u64 0, .int .i64 0] 66)).alloc (.cells dchZ 40)) (w.heap.size + 2) dchZ 40 := by
    have := Blk.new ((w.alloc (.cells (dchA A T r s a c) 40)).alloc (.cells #[.bool ok, .int .u64 word, .int .u64 ver, .int .i64 0, .int .i64 0, .string ⟨#[]⟩, .string ⟨#[]⟩, .bool false, .int .i64 0, .slice none 0 0, .slice none 0 0, .slice none 0 0, .int .i64 0, .int .i64 0, .string ⟨#[]⟩, .int .u64 0, .slice none 0 0, .slice none 0 0, .slice none 0 0, .slice none 0 0, .int .i64 0, .string ⟨#[]⟩, .string ⟨#[]⟩, .int .u64 0, .int .i64 0] 66)) dchZ 40
    simpa using this
  go_enter Try.func17, Try.ntmps17
  go_upto_region 1 with (fail)
  generalize (((w.alloc (.cells (dchA A T r s a c) 40)).alloc (.cells #[.bool ok, .int .u64 word, .int .u64 ver, .int .i64 0, .int .i64 0, .string ⟨#[]⟩, .string ⟨#[]⟩, .bool false, .int .i64 0, .slice none 0 0, .slice none 0 0, .slice none 0 0, .int .i64 0, .int .i64 0, .string ⟨#[]⟩, .int .u64 0, .slice none 0 0, .slice none 0 0, .slice none 0 0, .slice none 0 0, .int .i64 0, .string ⟨#[]⟩, .string ⟨#[]⟩, .int .u64 0, .int .i64 0] 66)).alloc (.cells dchZ 40)) = w1 at hB BC BQ BR ⊢
  have d5 : w1.cell? ⟨w.heap.size, 5, none⟩ = some (.int .i64 s.th) := BC.at 5 rfl
  have d6 : w1.cell? ⟨w.heap.size, 6, none⟩ = some (.int .i64 s.at_) := BC.at 6 rfl
  have d7 : w1.cell? ⟨w.heap.size, 7, none⟩ = some (.int .u64 s.ver) := BC.at 7 rfl
  have d8 : w1.cell? ⟨w.heap.size, 8, none⟩ = some (.int .u64 s.done) := BC.at 8 rfl
  have d9 : w1.cell? ⟨w.heap.size, 9, none⟩ = some (.int .u64 s.ph) := BC.at 9 rfl
  have d10 : w1.cell? ⟨w.heap.size, 10, none⟩ = some (.slice a s.L.length c) := BC.at 10 rfl
  have f5 := BC.free 5
  have f6 := BC.free 6
  have f7 := BC.free 7
  have f8 := BC.free 8
  have f9 := BC.free 9
  have r1 : w1.cell? ⟨w.heap.size + 1, 1, none⟩ = some (.int .u64 word) := BQ.at 1 rfl
  have r2 : w1.cell? ⟨w.heap.size + 1, 2, none⟩ = some (.int .u64 ver) := BQ.at 2 rfl
  rw [he] at d6
  have hL1 := hL.below hB
  have hlt := BR.lt
  clear hL
  -- the orders: E the empty row's block, X the new record's
  have bE : Below w1.heap.size w1 ((w1.alloc (.cells #[] 91)).drew) := ((Below.refl _ w1).alloc (Nat.le_refl _) _).drew
  have bEX : Below w1.heap.size w1 (((w1.alloc (.cells #[] 91)).alloc (.cells #[.int .i64 s.th, .int .u64 s.ph] 91)).drew) := (((Below.refl _ w1).alloc (Nat.le_refl _) _).alloc (by simp) _).drew
  have bXE : Below w1.heap.size w1 (((w1.alloc (.cells #[.int .i64 s.th, .int .u64 s.ph] 91)).alloc (.cells #[] 91)).drew) := (((Below.refl _ w1).alloc (Nat.le_refl _) _).alloc (by simp) _).drew
  have oE := OwnR.empty 2 candG ((0, 0) : Int × Int) w1 (w.heap.size + 3) 91 (by omega)
  have oA := OwnR.below oE (Below.refl _ _).drew
  have oB := OwnR.below oE ((((Below.refl _ (w1.alloc (.cells #[] 91))).alloc (Nat.le_refl _) (.cells #[.int .i64 s.th, .int .u64 s.ph] 91))).drew)
  have oC' := OwnR.empty 2 candG ((0, 0) : Int × Int) (w1.alloc (.cells #[.int .i64 s.th, .int .u64 s.ph] 91)) (w.heap.size + 3) 91 (by simp; omega)
  have oC := OwnR.below oC' (Below.refl _ _).drew
  have rA := recs_of_cands (hL1.below bE)
  have rB := recs_of_cands (hL1.below bEX)
  have rC := recs_of_cands (hL1.below bXE)
  simp only [World.size_alloc] at oC
  have hx0 : ∀ j, j < 2 → (#[.int .i64 s.th, .int .u64 s.ph] : Array Value)[j]? = some (candG ((s.th : Int), s.ph) j) := fun j hj => by rcases two j hj with e | e <;> subst e <;> rfl
  obtain ⟨gA1, cA1, wA2, KA1⟩ := addD (w.heap.size + 3) (w1.heap.size) oA c rA (by simp; omega) (by simp; omega)
  rw [List.nil_append] at KA1
  have hrA1 := Lib.hid (show ∀ ty, (Builtin.append_ #[38, 38] ty #[.slice (some ⟨w1.heap.size, 0, none⟩) 0 0, .slice a s.L.length c]).run Try.prog ((w1.alloc (.cells #[] 91)).drew) = .ok (.slice (some ⟨gA1, 0, none⟩) s.L.length cA1) wA2 from fun ty => by have := KA1.run ty; rw [List.length_nil, Nat.zero_add] at this; exact this)
  obtain ⟨gB1, cB1, wB2, KB1⟩ := addD (w.heap.size + 3) (w1.heap.size) oB c rB (by simp; omega) (by simp; omega)
  rw [List.nil_append] at KB1
  have hrB1 := Lib.hid (show ∀ ty, (Builtin.append_ #[38, 38] ty #[.slice (some ⟨w1.heap.size, 0, none⟩) 0 0, .slice a s.L.length c]).run Try.prog (((w1.alloc (.cells #[] 91)).alloc (.cells #[.int .i64 s.th, .int .u64 s.ph] 91)).drew) = .ok (.slice (some ⟨gB1, 0, none⟩) s.L.length cB1) wB2 from fun ty => by have := KB1.run ty; rw [List.length_nil, Nat.zero_add] at this; exact this)
  obtain ⟨gC1, cC1, wC2, KC1⟩ := addD (w.heap.size + 3) (w1.heap.size + 1) oC c rC (by simp; omega) (by simp; omega)
  rw [List.nil_append] at KC1
  have hrC1 := Lib.hid (show ∀ ty, (Builtin.append_ #[38, 38] ty #[.slice (some ⟨w1.heap.size + 1, 0, none⟩) 0 0, .slice a s.L.length c]).run Try.prog (((w1.alloc (.cells #[.int .i64 s.th, .int .u64 s.ph] 91)).alloc (.cells #[] 91)).drew) = .ok (.slice (some ⟨gC1, 0, none⟩) s.L.length cC1) wC2 from fun ty => by have := KC1.run ty; rw [List.length_nil, Nat.zero_add] at this; exact this)
  have bA3 : Below wA2.heap.size wA2 (wA2.alloc (.cells #[.int .i64 s.th, .int .u64 s.ph] 91)) := (Below.refl _ wA2).alloc (Nat.le_refl _) _
  have LB : Blk wB2 (w1.heap.size + 1) #[.int .i64 s.th, .int .u64 s.ph] 91 := by
    have := (Blk.new (w1.alloc (.cells #[] 91)) #[.int .i64 s.th, .int .u64 s.ph] 91).drew
    simp only [World.size_alloc] at this
    exact this.grown KB1.grown (fun e => by simp only [Value.ownBlock, Option.some.injEq] at e; omega)
  have LC : Blk wC2 w1.heap.size #[.int .i64 s.th, .int .u64 s.ph] 91 :=
    ((Blk.new w1 #[.int .i64 s.th, .int .u64 s.ph] 91).alloc (.cells #[] 91)).drew.grown KC1.grown (fun e => by simp only [Value.ownBlock, Option.some.injEq] at e; omega)
  obtain ⟨gA, cA, wA4, KA2⟩ := addD (w.heap.size + 3) gA1 (OwnR.below KA1.own bA3) 1 (rec_lit (Blk.new wA2 #[.int .i64 s.th, .int .u64 s.ph] 91) ((s.th : Int), s.ph) hx0) (by simp; omega) (by have := bA3.size; have := KA1.lt; have := KA1.ge; omega)
  obtain ⟨gB, cB, wB4, KB2⟩ := addD (w.heap.size + 3) gB1 KB1.own 1 (rec_lit LB ((s.th : Int), s.ph) hx0) (by simp; omega) (by have := KB1.lt; have := KB1.ge; omega)
  obtain ⟨gC, cC, wC4, KC2⟩ := addD (w.heap.size + 3) gC1 KC1.own 1 (rec_lit LC ((s.th : Int), s.ph) hx0) (by simp; omega) (by have := KC1.lt; have := KC1.ge; omega)
  have FA := finD ((BC.alloc (.cells #[] 91)).drew) ((BR.alloc (.cells #[] 91)).drew) ((hB.alloc (by omega) (.cells #[] 91)).drew) oA KA1 bA3 KA2
  have FB := finD (((BC.alloc (.cells #[] 91)).alloc (.cells #[.int .i64 s.th, .int .u64 s.ph] 91)).drew) (((BR.alloc (.cells #[] 91)).alloc (.cells #[.int .i64 s.th, .int .u64 s.ph] 91)).drew) (((hB.alloc (by omega) (.cells #[] 91)).alloc (by simp; omega) (.cells #[.int .i64 s.th, .int .u64 s.ph] 91)).drew) oB KB1 (Below.refl _ _) KB2
  have FC := finD (((BC.alloc (.cells #[.int .i64 s.th, .int .u64 s.ph] 91)).alloc (.cells #[] 91)).drew) (((BR.alloc (.cells #[.int .i64 s.th, .int .u64 s.ph] 91)).alloc (.cells #[] 91)).drew) (((hB.alloc (by omega) (.cells #[.int .i64 s.th, .int .u64 s.ph] 91)).alloc (by simp; omega) (.cells #[] 91)).drew) oC KC1 (Below.refl _ _) KC2
  have hrA2 := Lib.hid KA2.run
  have hrB2 := Lib.hid KB2.run
  have hrC2 := Lib.hid KC2.run
  have a10 := FA.c4.at 10 rfl
  have b10 := FB.c4.at 10 rfl
  have c10 := FC.c4.at 10 rfl
  have fa10 := FA.c4.free 10
  have fb10 := FB.c4.free 10
  have fc10 := FC.c4.free 10
  have hltc : w.heap.size < w1.heap.size := BC.lt
  clear KA1 KB1 KC1 KA2 KB2 KC2 oE oA oB oC oC' rA rB rC bE bEX bXE bA3 LB LC hL1
  go_upto_region 3 with (fail)
  go_cut [] (fun wx => ∃ g cap V2 V3 wf, wx = wf.setCell ⟨w.heap.size, 10, none⟩ (.slice (some ⟨g, 0, none⟩) (s.L.length + 1) cap) ∧ FinD w (dchA A T r s a c) (s.L ++ [((s.th : Int), s.ph)]) g cap V2 V3 wf)
  case first =>
    refine wp_region_held_drew (S := fun w' => w'.cell? ⟨w.heap.size, 5, none⟩ = some (.int .i64 s.th) ∧ w'.cell? ⟨w.heap.size, 9, none⟩ = some (.int .u64 s.ph)) (by kernel_rfl) ?_ (fun hHeld => ?_)
    · exact ⟨BC.drew.at 5 rfl, BC.drew.at 9 rfl⟩
    refine wpAnyH_take (i := 1) (oi := ⟨_, _, _, _, _, _⟩) (v := ?_) rfl (by kernel_rfl) (by kernel_rfl) (by kernel_rfl) (fun _ _ _ h => h) (Or.inl ⟨by rfl, ?_⟩) (by assumption) ?_
    rotate_left
    · intro wS hSw
      try dsimp only at hSw
      go_simp
      try with_reducible rfl
    try simp only [Act.put, List.setIfInBounds_toArray, List.set_cons_zero, List.set_cons_succ]
    refine wpAnyH_take (i := 4) (oi := ⟨_, _, _, _, _, _⟩) (v := ?_) rfl (by kernel_rfl) (by kernel_rfl) (by kernel_rfl) (fun _ _ _ h => h) (Or.inl ⟨by rfl, ?_⟩) (by assumption) ?_
    rotate_left
    · intro wS hSw
      try dsimp only at hSw
      go_simp
      try with_reducible rfl
    try simp only [Act.put, List.setIfInBounds_toArray, List.set_cons_zero, List.set_cons_succ]
    refine wpAnyH_take (i := 5) (oi := ⟨_, _, _, _, _, _⟩) (v := ?_) rfl (by kernel_rfl) (by kernel_rfl) (by kernel_rfl) (fun _ _ _ h => h) (Or.inl ⟨by rfl, ?_⟩) (by assumption) ?_
    rotate_left
    · intro wS hSw
      try dsimp only at hSw
      go_simp
      try with_reducible rfl
    try simp only [Act.put, List.setIfInBounds_toArray, List.set_cons_zero, List.set_cons_succ]
    refine wpAnyH_take (i := 6) (oi := ⟨_, _, _, _, _, _⟩) (v := ?_) rfl (by kernel_rfl) (by kernel_rfl) (by kernel_rfl) (fun _ _ _ h => h) (Or.inl ⟨by rfl, ?_⟩) (by assumption) ?_
    rotate_left
    · intro wS hSw
      try dsimp only at hSw
      go_simp
      try with_reducible rfl
    try simp only [Act.put, List.setIfInBounds_toArray, List.set_cons_zero, List.set_cons_succ]
    refine wpAnyH_take (i := 7) (oi := ⟨_, _, _, _, _, _⟩) (v := ?_) rfl (by kernel_rfl) (by kernel_rfl) (by kernel_rfl) (fun _ _ _ h => h) (Or.inl ⟨by rfl, ?_⟩) (by assumption) ?_
    rotate_left
    · intro wS hSw
      try dsimp only at hSw
      go_simp
      try with_reducible rfl
    try simp only [Act.put, List.setIfInBounds_toArray, List.set_cons_zero, List.set_cons_succ]
    refine wpAnyH_take (i := 8) (oi := ⟨_, _, _, _, _, _⟩) (v := ?_) rfl (by kernel_rfl) (by kernel_rfl) (by kernel_rfl) (fun _ _ _ h => h) (Or.inl ⟨by rfl, ?_⟩) (by assumption) ?_
    rotate_left
    · intro wS hSw
      try dsimp only at hSw
      go_simp
      try with_reducible rfl
    try simp only [Act.put, List.setIfInBounds_toArray, List.set_cons_zero, List.set_cons_succ]
    refine wpAnyH_ready (rs := [0, 2, 9]) (by kernel_rfl) (by simp) ?_
    refine AllReadyH.cons rfl (fun K hK => ?_) (AllReadyH.cons rfl (fun K hK => ?_) (AllReadyH.cons rfl (fun K hK => ?_) AllReadyH.nil))
    · go_simp
      refine hK.out _ _ ?_ (fun hHeld => ?_)
      · (first | exact ⟨BC.drew.at 5 rfl, BC.drew.at 9 rfl⟩ | exact ⟨(BC.alloc _).drew.at 5 rfl, (BC.alloc _).drew.at 9 rfl⟩ | exact ⟨((BC.alloc _).alloc _).drew.at 5 rfl, ((BC.alloc _).alloc _).drew.at 9 rfl⟩ | exact ⟨FA.c2.at 5 rfl, FA.c2.at 9 rfl⟩ | exact ⟨FA.c3.at 5 rfl, FA.c3.at 9 rfl⟩ | exact ⟨FA.c4.at 5 rfl, FA.c4.at 9 rfl⟩ | exact ⟨FB.c2.at 5 rfl, FB.c2.at 9 rfl⟩ | exact ⟨FB.c4.at 5 rfl, FB.c4.at 9 rfl⟩ | exact ⟨FC.c2.at 5 rfl, FC.c2.at 9 rfl⟩ | exact ⟨FC.c4.at 5 rfl, FC.c4.at 9 rfl⟩ | exact ⟨(FA.c4.set 10 _).at 5 rfl, (FA.c4.set 10 _).at 9 rfl⟩ | exact ⟨(FB.c4.set 10 _).at 5 rfl, (FB.c4.set 10 _).at 9 rfl⟩ | exact ⟨(FC.c4.set 10 _).at 5 rfl, (FC.c4.set 10 _).at 9 rfl⟩)
      clear hK K
      try simp only [Act.put, List.setIfInBounds_toArray, List.set_cons_zero, List.set_cons_succ]
      refine wpAnyH_ready (rs := [2, 9]) (by kernel_rfl) (by simp) ?_
      refine AllReadyH.cons rfl (fun K hK => ?_) (AllReadyH.cons rfl (fun K hK => ?_) AllReadyH.nil)
      · go_simp
        refine hK.out _ _ ?_ (fun hHeld => ?_)
        · (first | exact ⟨BC.drew.at 5 rfl, BC.drew.at 9 rfl⟩ | exact ⟨(BC.alloc _).drew.at 5 rfl, (BC.alloc _).drew.at 9 rfl⟩ | exact ⟨((BC.alloc _).alloc _).drew.at 5 rfl, ((BC.alloc _).alloc _).drew.at 9 rfl⟩ | exact ⟨FA.c2.at 5 rfl, FA.c2.at 9 rfl⟩ | exact ⟨FA.c3.at 5 rfl, FA.c3.at 9 rfl⟩ | exact ⟨FA.c4.at 5 rfl, FA.c4.at 9 rfl⟩ | exact ⟨FB.c2.at 5 rfl, FB.c2.at 9 rfl⟩ | exact ⟨FB.c4.at 5 rfl, FB.c4.at 9 rfl⟩ | exact ⟨FC.c2.at 5 rfl, FC.c2.at 9 rfl⟩ | exact ⟨FC.c4.at 5 rfl, FC.c4.at 9 rfl⟩ | exact ⟨(FA.c4.set 10 _).at 5 rfl, (FA.c4.set 10 _).at 9 rfl⟩ | exact ⟨(FB.c4.set 10 _).at 5 rfl, (FB.c4.set 10 _).at 9 rfl⟩ | exact ⟨(FC.c4.set 10 _).at 5 rfl, (FC.c4.set 10 _).at 9 rfl⟩)
        clear hK K
        try simp only [Act.put, List.setIfInBounds_toArray, List.set_cons_zero, List.set_cons_succ]
        refine wpAnyH_ready (rs := [3, 9]) (by kernel_rfl) (by simp) ?_
        refine AllReadyH.cons rfl (fun K hK => ?_) (AllReadyH.cons rfl (fun K hK => ?_) AllReadyH.nil)
        · refine step_append_run hrA1.out rfl (by rfl) (by rfl) (by rfl) ?_
          refine hK.out _ _ ?_ (fun hHeld => ?_)
          · (first | exact ⟨BC.drew.at 5 rfl, BC.drew.at 9 rfl⟩ | exact ⟨(BC.alloc _).drew.at 5 rfl, (BC.alloc _).drew.at 9 rfl⟩ | exact ⟨((BC.alloc _).alloc _).drew.at 5 rfl, ((BC.alloc _).alloc _).drew.at 9 rfl⟩ | exact ⟨FA.c2.at 5 rfl, FA.c2.at 9 rfl⟩ | exact ⟨FA.c3.at 5 rfl, FA.c3.at 9 rfl⟩ | exact ⟨FA.c4.at 5 rfl, FA.c4.at 9 rfl⟩ | exact ⟨FB.c2.at 5 rfl, FB.c2.at 9 rfl⟩ | exact ⟨FB.c4.at 5 rfl, FB.c4.at 9 rfl⟩ | exact ⟨FC.c2.at 5 rfl, FC.c2.at 9 rfl⟩ | exact ⟨FC.c4.at 5 rfl, FC.c4.at 9 rfl⟩ | exact ⟨(FA.c4.set 10 _).at 5 rfl, (FA.c4.set 10 _).at 9 rfl⟩ | exact ⟨(FB.c4.set 10 _).at 5 rfl, (FB.c4.set 10 _).at 9 rfl⟩ | exact ⟨(FC.c4.set 10 _).at 5 rfl, (FC.c4.set 10 _).at 9 rfl⟩)
          clear hK K
          try simp only [Act.put, List.setIfInBounds_toArray, List.set_cons_zero, List.set_cons_succ]
          refine wpAnyH_ready (rs := [9]) (by kernel_rfl) (by simp) ?_
          refine AllReadyH.cons rfl (fun K hK => ?_) AllReadyH.nil
          go_simp
          refine hK.out _ _ ?_ (fun hHeld => ?_)
          · (first | exact ⟨BC.drew.at 5 rfl, BC.drew.at 9 rfl⟩ | exact ⟨(BC.alloc _).drew.at 5 rfl, (BC.alloc _).drew.at 9 rfl⟩ | exact ⟨((BC.alloc _).alloc _).drew.at 5 rfl, ((BC.alloc _).alloc _).drew.at 9 rfl⟩ | exact ⟨FA.c2.at 5 rfl, FA.c2.at 9 rfl⟩ | exact ⟨FA.c3.at 5 rfl, FA.c3.at 9 rfl⟩ | exact ⟨FA.c4.at 5 rfl, FA.c4.at 9 rfl⟩ | exact ⟨FB.c2.at 5 rfl, FB.c2.at 9 rfl⟩ | exact ⟨FB.c4.at 5 rfl, FB.c4.at 9 rfl⟩ | exact ⟨FC.c2.at 5 rfl, FC.c2.at 9 rfl⟩ | exact ⟨FC.c4.at 5 rfl, FC.c4.at 9 rfl⟩ | exact ⟨(FA.c4.set 10 _).at 5 rfl, (FA.c4.set 10 _).at 9 rfl⟩ | exact ⟨(FB.c4.set 10 _).at 5 rfl, (FB.c4.set 10 _).at 9 rfl⟩ | exact ⟨(FC.c4.set 10 _).at 5 rfl, (FC.c4.set 10 _).at 9 rfl⟩)
          clear hK K
          try simp only [Act.put, List.setIfInBounds_toArray, List.set_cons_zero, List.set_cons_succ]
          refine wpAnyH_ready (rs := [10]) (by kernel_rfl) (by simp) ?_
          refine AllReadyH.cons rfl (fun K hK => ?_) AllReadyH.nil
          refine step_append_run hrA2.out rfl (by rfl) (by rfl) (by rfl) ?_
          refine hK.out _ _ ?_ (fun hHeld => ?_)
          · (first | exact ⟨BC.drew.at 5 rfl, BC.drew.at 9 rfl⟩ | exact ⟨(BC.alloc _).drew.at 5 rfl, (BC.alloc _).drew.at 9 rfl⟩ | exact ⟨((BC.alloc _).alloc _).drew.at 5 rfl, ((BC.alloc _).alloc _).drew.at 9 rfl⟩ | exact ⟨FA.c2.at 5 rfl, FA.c2.at 9 rfl⟩ | exact ⟨FA.c3.at 5 rfl, FA.c3.at 9 rfl⟩ | exact ⟨FA.c4.at 5 rfl, FA.c4.at 9 rfl⟩ | exact ⟨FB.c2.at 5 rfl, FB.c2.at 9 rfl⟩ | exact ⟨FB.c4.at 5 rfl, FB.c4.at 9 rfl⟩ | exact ⟨FC.c2.at 5 rfl, FC.c2.at 9 rfl⟩ | exact ⟨FC.c4.at 5 rfl, FC.c4.at 9 rfl⟩ | exact ⟨(FA.c4.set 10 _).at 5 rfl, (FA.c4.set 10 _).at 9 rfl⟩ | exact ⟨(FB.c4.set 10 _).at 5 rfl, (FB.c4.set 10 _).at 9 rfl⟩ | exact ⟨(FC.c4.set 10 _).at 5 rfl, (FC.c4.set 10 _).at 9 rfl⟩)
          clear hK K
          try simp only [Act.put, List.setIfInBounds_toArray, List.set_cons_zero, List.set_cons_succ]
          refine wpAnyH_take (i := 11) (oi := ⟨_, _, _, _, _, _⟩) (v := ?_) rfl (by kernel_rfl) (by kernel_rfl) (by kernel_rfl) (fun _ _ _ h => h) (Or.inl ⟨by rfl, ?_⟩) (by assumption) ?_
          rotate_left
          · intro wS hSw
            try dsimp only at hSw
            go_simp
            try with_reducible rfl
          try simp only [Act.put, List.setIfInBounds_toArray, List.set_cons_zero, List.set_cons_succ]
          refine wpAnyH_ready (rs := [12]) (by kernel_rfl) (by simp) ?_
          refine AllReadyH.cons rfl (fun K hK => ?_) AllReadyH.nil
          go_simp
          refine hK.out _ _ ?_ (fun hHeld => ?_)
          · (first | exact ⟨BC.drew.at 5 rfl, BC.drew.at 9 rfl⟩ | exact ⟨(BC.alloc _).drew.at 5 rfl, (BC.alloc _).drew.at 9 rfl⟩ | exact ⟨((BC.alloc _).alloc _).drew.at 5 rfl, ((BC.alloc _).alloc _).drew.at 9 rfl⟩ | exact ⟨FA.c2.at 5 rfl, FA.c2.at 9 rfl⟩ | exact ⟨FA.c3.at 5 rfl, FA.c3.at 9 rfl⟩ | exact ⟨FA.c4.at 5 rfl, FA.c4.at 9 rfl⟩ | exact ⟨FB.c2.at 5 rfl, FB.c2.at 9 rfl⟩ | exact ⟨FB.c4.at 5 rfl, FB.c4.at 9 rfl⟩ | exact ⟨FC.c2.at 5 rfl, FC.c2.at 9 rfl⟩ | exact ⟨FC.c4.at 5 rfl, FC.c4.at 9 rfl⟩ | exact ⟨(FA.c4.set 10 _).at 5 rfl, (FA.c4.set 10 _).at 9 rfl⟩ | exact ⟨(FB.c4.set 10 _).at 5 rfl, (FB.c4.set 10 _).at 9 rfl⟩ | exact ⟨(FC.c4.set 10 _).at 5 rfl, (FC.c4.set 10 _).at 9 rfl⟩)
          clear hK K
          try simp only [Act.put, List.setIfInBounds_toArray, List.set_cons_zero, List.set_cons_succ]
          refine wpAnyH_done (by kernel_rfl) ?_ _
          go_wp2_with fail
          go_meet
          exact ⟨_, _, _, _, _, rfl, FA⟩
        · go_simp
          refine hK.out _ _ ?_ (fun hHeld => ?_)
          · (first | exact ⟨BC.drew.at 5 rfl, BC.drew.at 9 rfl⟩ | exact ⟨(BC.alloc _).drew.at 5 rfl, (BC.alloc _).drew.at 9 rfl⟩ | exact ⟨((BC.alloc _).alloc _).drew.at 5 rfl, ((BC.alloc _).alloc _).drew.at 9 rfl⟩ | exact ⟨FA.c2.at 5 rfl, FA.c2.at 9 rfl⟩ | exact ⟨FA.c3.at 5 rfl, FA.c3.at 9 rfl⟩ | exact ⟨FA.c4.at 5 rfl, FA.c4.at 9 rfl⟩ | exact ⟨FB.c2.at 5 rfl, FB.c2.at 9 rfl⟩ | exact ⟨FB.c4.at 5 rfl, FB.c4.at 9 rfl⟩ | exact ⟨FC.c2.at 5 rfl, FC.c2.at 9 rfl⟩ | exact ⟨FC.c4.at 5 rfl, FC.c4.at 9 rfl⟩ | exact ⟨(FA.c4.set 10 _).at 5 rfl, (FA.c4.set 10 _).at 9 rfl⟩ | exact ⟨(FB.c4.set 10 _).at 5 rfl, (FB.c4.set 10 _).at 9 rfl⟩ | exact ⟨(FC.c4.set 10 _).at 5 rfl, (FC.c4.set 10 _).at 9 rfl⟩)
          clear hK K
          try simp only [Act.put, List.setIfInBounds_toArray, List.set_cons_zero, List.set_cons_succ]
          refine wpAnyH_ready (rs := [3]) (by kernel_rfl) (by simp) ?_
          refine AllReadyH.cons rfl (fun K hK => ?_) AllReadyH.nil
          refine step_append_run hrB1.out rfl (by rfl) (by rfl) (by rfl) ?_
          refine hK.out _ _ ?_ (fun hHeld => ?_)
          · (first | exact ⟨BC.drew.at 5 rfl, BC.drew.at 9 rfl⟩ | exact ⟨(BC.alloc _).drew.at 5 rfl, (BC.alloc _).drew.at 9 rfl⟩ | exact ⟨((BC.alloc _).alloc _).drew.at 5 rfl, ((BC.alloc _).alloc _).drew.at 9 rfl⟩ | exact ⟨FA.c2.at 5 rfl, FA.c2.at 9 rfl⟩ | exact ⟨FA.c3.at 5 rfl, FA.c3.at 9 rfl⟩ | exact ⟨FA.c4.at 5 rfl, FA.c4.at 9 rfl⟩ | exact ⟨FB.c2.at 5 rfl, FB.c2.at 9 rfl⟩ | exact ⟨FB.c4.at 5 rfl, FB.c4.at 9 rfl⟩ | exact ⟨FC.c2.at 5 rfl, FC.c2.at 9 rfl⟩ | exact ⟨FC.c4.at 5 rfl, FC.c4.at 9 rfl⟩ | exact ⟨(FA.c4.set 10 _).at 5 rfl, (FA.c4.set 10 _).at 9 rfl⟩ | exact ⟨(FB.c4.set 10 _).at 5 rfl, (FB.c4.set 10 _).at 9 rfl⟩ | exact ⟨(FC.c4.set 10 _).at 5 rfl, (FC.c4.set 10 _).at 9 rfl⟩)
          clear hK K
          try simp only [Act.put, List.setIfInBounds_toArray, List.set_cons_zero, List.set_cons_succ]
          refine wpAnyH_ready (rs := [10]) (by kernel_rfl) (by simp) ?_
          refine AllReadyH.cons rfl (fun K hK => ?_) AllReadyH.nil
          refine step_append_run hrB2.out rfl (by rfl) (by rfl) (by rfl) ?_
          refine hK.out _ _ ?_ (fun hHeld => ?_)
          · (first | exact ⟨BC.drew.at 5 rfl, BC.drew.at 9 rfl⟩ | exact ⟨(BC.alloc _).drew.at 5 rfl, (BC.alloc _).drew.at 9 rfl⟩ | exact ⟨((BC.alloc _).alloc _).drew.at 5 rfl, ((BC.alloc _).alloc _).drew.at 9 rfl⟩ | exact ⟨FA.c2.at 5 rfl, FA.c2.at 9 rfl⟩ | exact ⟨FA.c3.at 5 rfl, FA.c3.at 9 rfl⟩ | exact ⟨FA.c4.at 5 rfl, FA.c4.at 9 rfl⟩ | exact ⟨FB.c2.at 5 rfl, FB.c2.at 9 rfl⟩ | exact ⟨FB.c4.at 5 rfl, FB.c4.at 9 rfl⟩ | exact ⟨FC.c2.at 5 rfl, FC.c2.at 9 rfl⟩ | exact ⟨FC.c4.at 5 rfl, FC.c4.at 9 rfl⟩ | exact ⟨(FA.c4.set 10 _).at 5 rfl, (FA.c4.set 10 _).at 9 rfl⟩ | exact ⟨(FB.c4.set 10 _).at 5 rfl, (FB.c4.set 10 _).at 9 rfl⟩ | exact ⟨(FC.c4.set 10 _).at 5 rfl, (FC.c4.set 10 _).at 9 rfl⟩)
          clear hK K
          try simp only [Act.put, List.setIfInBounds_toArray, List.set_cons_zero, List.set_cons_succ]
          refine wpAnyH_take (i := 11) (oi := ⟨_, _, _, _, _, _⟩) (v := ?_) rfl (by kernel_rfl) (by kernel_rfl) (by kernel_rfl) (fun _ _ _ h => h) (Or.inl ⟨by rfl, ?_⟩) (by assumption) ?_
          rotate_left
          · intro wS hSw
            try dsimp only at hSw
            go_simp
            try with_reducible rfl
          try simp only [Act.put, List.setIfInBounds_toArray, List.set_cons_zero, List.set_cons_succ]
          refine wpAnyH_ready (rs := [12]) (by kernel_rfl) (by simp) ?_
          refine AllReadyH.cons rfl (fun K hK => ?_) AllReadyH.nil
          go_simp
          refine hK.out _ _ ?_ (fun hHeld => ?_)
          · (first | exact ⟨BC.drew.at 5 rfl, BC.drew.at 9 rfl⟩ | exact ⟨(BC.alloc _).drew.at 5 rfl, (BC.alloc _).drew.at 9 rfl⟩ | exact ⟨((BC.alloc _).alloc _).drew.at 5 rfl, ((BC.alloc _).alloc _).drew.at 9 rfl⟩ | exact ⟨FA.c2.at 5 rfl, FA.c2.at 9 rfl⟩ | exact ⟨FA.c3.at 5 rfl, FA.c3.at 9 rfl⟩ | exact ⟨FA.c4.at 5 rfl, FA.c4.at 9 rfl⟩ | exact ⟨FB.c2.at 5 rfl, FB.c2.at 9 rfl⟩ | exact ⟨FB.c4.at 5 rfl, FB.c4.at 9 rfl⟩ | exact ⟨FC.c2.at 5 rfl, FC.c2.at 9 rfl⟩ | exact ⟨FC.c4.at 5 rfl, FC.c4.at 9 rfl⟩ | exact ⟨(FA.c4.set 10 _).at 5 rfl, (FA.c4.set 10 _).at 9 rfl⟩ | exact ⟨(FB.c4.set 10 _).at 5 rfl, (FB.c4.set 10 _).at 9 rfl⟩ | exact ⟨(FC.c4.set 10 _).at 5 rfl, (FC.c4.set 10 _).at 9 rfl⟩)
          clear hK K
          try simp only [Act.put, List.setIfInBounds_toArray, List.set_cons_zero, List.set_cons_succ]
          refine wpAnyH_done (by kernel_rfl) ?_ _
          go_wp2_with fail
          go_meet
          exact ⟨_, _, _, _, _, rfl, FB⟩
      · go_simp
        refine hK.out _ _ ?_ (fun hHeld => ?_)
        · (first | exact ⟨BC.drew.at 5 rfl, BC.drew.at 9 rfl⟩ | exact ⟨(BC.alloc _).drew.at 5 rfl, (BC.alloc _).drew.at 9 rfl⟩ | exact ⟨((BC.alloc _).alloc _).drew.at 5 rfl, ((BC.alloc _).alloc _).drew.at 9 rfl⟩ | exact ⟨FA.c2.at 5 rfl, FA.c2.at 9 rfl⟩ | exact ⟨FA.c3.at 5 rfl, FA.c3.at 9 rfl⟩ | exact ⟨FA.c4.at 5 rfl, FA.c4.at 9 rfl⟩ | exact ⟨FB.c2.at 5 rfl, FB.c2.at 9 rfl⟩ | exact ⟨FB.c4.at 5 rfl, FB.c4.at 9 rfl⟩ | exact ⟨FC.c2.at 5 rfl, FC.c2.at 9 rfl⟩ | exact ⟨FC.c4.at 5 rfl, FC.c4.at 9 rfl⟩ | exact ⟨(FA.c4.set 10 _).at 5 rfl, (FA.c4.set 10 _).at 9 rfl⟩ | exact ⟨(FB.c4.set 10 _).at 5 rfl, (FB.c4.set 10 _).at 9 rfl⟩ | exact ⟨(FC.c4.set 10 _).at 5 rfl, (FC.c4.set 10 _).at 9 rfl⟩)
        clear hK K
        try simp only [Act.put, List.setIfInBounds_toArray, List.set_cons_zero, List.set_cons_succ]
        refine wpAnyH_ready (rs := [2]) (by kernel_rfl) (by simp) ?_
        refine AllReadyH.cons rfl (fun K hK => ?_) AllReadyH.nil
        go_simp
        refine hK.out _ _ ?_ (fun hHeld => ?_)
        · (first | exact ⟨BC.drew.at 5 rfl, BC.drew.at 9 rfl⟩ | exact ⟨(BC.alloc _).drew.at 5 rfl, (BC.alloc _).drew.at 9 rfl⟩ | exact ⟨((BC.alloc _).alloc _).drew.at 5 rfl, ((BC.alloc _).alloc _).drew.at 9 rfl⟩ | exact ⟨FA.c2.at 5 rfl, FA.c2.at 9 rfl⟩ | exact ⟨FA.c3.at 5 rfl, FA.c3.at 9 rfl⟩ | exact ⟨FA.c4.at 5 rfl, FA.c4.at 9 rfl⟩ | exact ⟨FB.c2.at 5 rfl, FB.c2.at 9 rfl⟩ | exact ⟨FB.c4.at 5 rfl, FB.c4.at 9 rfl⟩ | exact ⟨FC.c2.at 5 rfl, FC.c2.at 9 rfl⟩ | exact ⟨FC.c4.at 5 rfl, FC.c4.at 9 rfl⟩ | exact ⟨(FA.c4.set 10 _).at 5 rfl, (FA.c4.set 10 _).at 9 rfl⟩ | exact ⟨(FB.c4.set 10 _).at 5 rfl, (FB.c4.set 10 _).at 9 rfl⟩ | exact ⟨(FC.c4.set 10 _).at 5 rfl, (FC.c4.set 10 _).at 9 rfl⟩)
        clear hK K
        try simp only [Act.put, List.setIfInBounds_toArray, List.set_cons_zero, List.set_cons_succ]
        refine wpAnyH_ready (rs := [3]) (by kernel_rfl) (by simp) ?_
        refine AllReadyH.cons rfl (fun K hK => ?_) AllReadyH.nil
        refine step_append_run hrB1.out rfl (by rfl) (by rfl) (by rfl) ?_
        refine hK.out _ _ ?_ (fun hHeld => ?_)
        · (first | exact ⟨BC.drew.at 5 rfl, BC.drew.at 9 rfl⟩ | exact ⟨(BC.alloc _).drew.at 5 rfl, (BC.alloc _).drew.at 9 rfl⟩ | exact ⟨((BC.alloc _).alloc _).drew.at 5 rfl, ((BC.alloc _).alloc _).drew.at 9 rfl⟩ | exact ⟨FA.c2.at 5 rfl, FA.c2.at 9 rfl⟩ | exact ⟨FA.c3.at 5 rfl, FA.c3.at 9 rfl⟩ | exact ⟨FA.c4.at 5 rfl, FA.c4.at 9 rfl⟩ | exact ⟨FB.c2.at 5 rfl, FB.c2.at 9 rfl⟩ | exact ⟨FB.c4.at 5 rfl, FB.c4.at 9 rfl⟩ | exact ⟨FC.c2.at 5 rfl, FC.c2.at 9 rfl⟩ | exact ⟨FC.c4.at 5 rfl, FC.c4.at 9 rfl⟩ | exact ⟨(FA.c4.set 10 _).at 5 rfl, (FA.c4.set 10 _).at 9 rfl⟩ | exact ⟨(FB.c4.set 10 _).at 5 rfl, (FB.c4.set 10 _).at 9 rfl⟩ | exact ⟨(FC.c4.set 10 _).at 5 rfl, (FC.c4.set 10 _).at 9 rfl⟩)
        clear hK K
        try simp only [Act.put, List.setIfInBounds_toArray, List.set_cons_zero, List.set_cons_succ]
        refine wpAnyH_ready (rs := [10]) (by kernel_rfl) (by simp) ?_
        refine AllReadyH.cons rfl (fun K hK => ?_) AllReadyH.nil
        refine step_append_run hrB2.out rfl (by rfl) (by rfl) (by rfl) ?_
        refine hK.out _ _ ?_ (fun hHeld => ?_)
        · (first | exact ⟨BC.drew.at 5 rfl, BC.drew.at 9 rfl⟩ | exact ⟨(BC.alloc _).drew.at 5 rfl, (BC.alloc _).drew.at 9 rfl⟩ | exact ⟨((BC.alloc _).alloc _).drew.at 5 rfl, ((BC.alloc _).alloc _).drew.at 9 rfl⟩ | exact ⟨FA.c2.at 5 rfl, FA.c2.at 9 rfl⟩ | exact ⟨FA.c3.at 5 rfl, FA.c3.at 9 rfl⟩ | exact ⟨FA.c4.at 5 rfl, FA.c4.at 9 rfl⟩ | exact ⟨FB.c2.at 5 rfl, FB.c2.at 9 rfl⟩ | exact ⟨FB.c4.at 5 rfl, FB.c4.at 9 rfl⟩ | exact ⟨FC.c2.at 5 rfl, FC.c2.at 9 rfl⟩ | exact ⟨FC.c4.at 5 rfl, FC.c4.at 9 rfl⟩ | exact ⟨(FA.c4.set 10 _).at 5 rfl, (FA.c4.set 10 _).at 9 rfl⟩ | exact ⟨(FB.c4.set 10 _).at 5 rfl, (FB.c4.set 10 _).at 9 rfl⟩ | exact ⟨(FC.c4.set 10 _).at 5 rfl, (FC.c4.set 10 _).at 9 rfl⟩)
        clear hK K
        try simp only [Act.put, List.setIfInBounds_toArray, List.set_cons_zero, List.set_cons_succ]
        refine wpAnyH_take (i := 11) (oi := ⟨_, _, _, _, _, _⟩) (v := ?_) rfl (by kernel_rfl) (by kernel_rfl) (by kernel_rfl) (fun _ _ _ h => h) (Or.inl ⟨by rfl, ?_⟩) (by assumption) ?_
        rotate_left
        · intro wS hSw
          try dsimp only at hSw
          go_simp
          try with_reducible rfl
        try simp only [Act.put, List.setIfInBounds_toArray, List.set_cons_zero, List.set_cons_succ]
        refine wpAnyH_ready (rs := [12]) (by kernel_rfl) (by simp) ?_
        refine AllReadyH.cons rfl (fun K hK => ?_) AllReadyH.nil
        go_simp
        refine hK.out _ _ ?_ (fun hHeld => ?_)
        · (first | exact ⟨BC.drew.at 5 rfl, BC.drew.at 9 rfl⟩ | exact ⟨(BC.alloc _).drew.at 5 rfl, (BC.alloc _).drew.at 9 rfl⟩ | exact ⟨((BC.alloc _).alloc _).drew.at 5 rfl, ((BC.alloc _).alloc _).drew.at 9 rfl⟩ | exact ⟨FA.c2.at 5 rfl, FA.c2.at 9 rfl⟩ | exact ⟨FA.c3.at 5 rfl, FA.c3.at 9 rfl⟩ | exact ⟨FA.c4.at 5 rfl, FA.c4.at 9 rfl⟩ | exact ⟨FB.c2.at 5 rfl, FB.c2.at 9 rfl⟩ | exact ⟨FB.c4.at 5 rfl, FB.c4.at 9 rfl⟩ | exact ⟨FC.c2.at 5 rfl, FC.c2.at 9 rfl⟩ | exact ⟨FC.c4.at 5 rfl, FC.c4.at 9 rfl⟩ | exact ⟨(FA.c4.set 10 _).at 5 rfl, (FA.c4.set 10 _).at 9 rfl⟩ | exact ⟨(FB.c4.set 10 _).at 5 rfl, (FB.c4.set 10 _).at 9 rfl⟩ | exact ⟨(FC.c4.set 10 _).at 5 rfl, (FC.c4.set 10 _).at 9 rfl⟩)
        clear hK K
        try simp only [Act.put, List.setIfInBounds_toArray, List.set_cons_zero, List.set_cons_succ]
        refine wpAnyH_done (by kernel_rfl) ?_ _
        go_wp2_with fail
        go_meet
        exact ⟨_, _, _, _, _, rfl, FB⟩
    · go_simp
      refine hK.out _ _ ?_ (fun hHeld => ?_)
      · (first | exact ⟨BC.drew.at 5 rfl, BC.drew.at 9 rfl⟩ | exact ⟨(BC.alloc _).drew.at 5 rfl, (BC.alloc _).drew.at 9 rfl⟩ | exact ⟨((BC.alloc _).alloc _).drew.at 5 rfl, ((BC.alloc _).alloc _).drew.at 9 rfl⟩ | exact ⟨FA.c2.at 5 rfl, FA.c2.at 9 rfl⟩ | exact ⟨FA.c3.at 5 rfl, FA.c3.at 9 rfl⟩ | exact ⟨FA.c4.at 5 rfl, FA.c4.at 9 rfl⟩ | exact ⟨FB.c2.at 5 rfl, FB.c2.at 9 rfl⟩ | exact ⟨FB.c4.at 5 rfl, FB.c4.at 9 rfl⟩ | exact ⟨FC.c2.at 5 rfl, FC.c2.at 9 rfl⟩ | exact ⟨FC.c4.at 5 rfl, FC.c4.at 9 rfl⟩ | exact ⟨(FA.c4.set 10 _).at 5 rfl, (FA.c4.set 10 _).at 9 rfl⟩ | exact ⟨(FB.c4.set 10 _).at 5 rfl, (FB.c4.set 10 _).at 9 rfl⟩ | exact ⟨(FC.c4.set 10 _).at 5 rfl, (FC.c4.set 10 _).at 9 rfl⟩)
      clear hK K
      try simp only [Act.put, List.setIfInBounds_toArray, List.set_cons_zero, List.set_cons_succ]
      refine wpAnyH_ready (rs := [0, 9]) (by kernel_rfl) (by simp) ?_
      refine AllReadyH.cons rfl (fun K hK => ?_) (AllReadyH.cons rfl (fun K hK => ?_) AllReadyH.nil)
      · go_simp
        refine hK.out _ _ ?_ (fun hHeld => ?_)
        · (first | exact ⟨BC.drew.at 5 rfl, BC.drew.at 9 rfl⟩ | exact ⟨(BC.alloc _).drew.at 5 rfl, (BC.alloc _).drew.at 9 rfl⟩ | exact ⟨((BC.alloc _).alloc _).drew.at 5 rfl, ((BC.alloc _).alloc _).drew.at 9 rfl⟩ | exact ⟨FA.c2.at 5 rfl, FA.c2.at 9 rfl⟩ | exact ⟨FA.c3.at 5 rfl, FA.c3.at 9 rfl⟩ | exact ⟨FA.c4.at 5 rfl, FA.c4.at 9 rfl⟩ | exact ⟨FB.c2.at 5 rfl, FB.c2.at 9 rfl⟩ | exact ⟨FB.c4.at 5 rfl, FB.c4.at 9 rfl⟩ | exact ⟨FC.c2.at 5 rfl, FC.c2.at 9 rfl⟩ | exact ⟨FC.c4.at 5 rfl, FC.c4.at 9 rfl⟩ | exact ⟨(FA.c4.set 10 _).at 5 rfl, (FA.c4.set 10 _).at 9 rfl⟩ | exact ⟨(FB.c4.set 10 _).at 5 rfl, (FB.c4.set 10 _).at 9 rfl⟩ | exact ⟨(FC.c4.set 10 _).at 5 rfl, (FC.c4.set 10 _).at 9 rfl⟩)
        clear hK K
        try simp only [Act.put, List.setIfInBounds_toArray, List.set_cons_zero, List.set_cons_succ]
        refine wpAnyH_ready (rs := [3, 9]) (by kernel_rfl) (by simp) ?_
        refine AllReadyH.cons rfl (fun K hK => ?_) (AllReadyH.cons rfl (fun K hK => ?_) AllReadyH.nil)
        · refine step_append_run hrA1.out rfl (by rfl) (by rfl) (by rfl) ?_
          refine hK.out _ _ ?_ (fun hHeld => ?_)
          · (first | exact ⟨BC.drew.at 5 rfl, BC.drew.at 9 rfl⟩ | exact ⟨(BC.alloc _).drew.at 5 rfl, (BC.alloc _).drew.at 9 rfl⟩ | exact ⟨((BC.alloc _).alloc _).drew.at 5 rfl, ((BC.alloc _).alloc _).drew.at 9 rfl⟩ | exact ⟨FA.c2.at 5 rfl, FA.c2.at 9 rfl⟩ | exact ⟨FA.c3.at 5 rfl, FA.c3.at 9 rfl⟩ | exact ⟨FA.c4.at 5 rfl, FA.c4.at 9 rfl⟩ | exact ⟨FB.c2.at 5 rfl, FB.c2.at 9 rfl⟩ | exact ⟨FB.c4.at 5 rfl, FB.c4.at 9 rfl⟩ | exact ⟨FC.c2.at 5 rfl, FC.c2.at 9 rfl⟩ | exact ⟨FC.c4.at 5 rfl, FC.c4.at 9 rfl⟩ | exact ⟨(FA.c4.set 10 _).at 5 rfl, (FA.c4.set 10 _).at 9 rfl⟩ | exact ⟨(FB.c4.set 10 _).at 5 rfl, (FB.c4.set 10 _).at 9 rfl⟩ | exact ⟨(FC.c4.set 10 _).at 5 rfl, (FC.c4.set 10 _).at 9 rfl⟩)
          clear hK K
          try simp only [Act.put, List.setIfInBounds_toArray, List.set_cons_zero, List.set_cons_succ]
          refine wpAnyH_ready (rs := [9]) (by kernel_rfl) (by simp) ?_
          refine AllReadyH.cons rfl (fun K hK => ?_) AllReadyH.nil
          go_simp
          refine hK.out _ _ ?_ (fun hHeld => ?_)
          · (first | exact ⟨BC.drew.at 5 rfl, BC.drew.at 9 rfl⟩ | exact ⟨(BC.alloc _).drew.at 5 rfl, (BC.alloc _).drew.at 9 rfl⟩ | exact ⟨((BC.alloc _).alloc _).drew.at 5 rfl, ((BC.alloc _).alloc _).drew.at 9 rfl⟩ | exact ⟨FA.c2.at 5 rfl, FA.c2.at 9 rfl⟩ | exact ⟨FA.c3.at 5 rfl, FA.c3.at 9 rfl⟩ | exact ⟨FA.c4.at 5 rfl, FA.c4.at 9 rfl⟩ | exact ⟨FB.c2.at 5 rfl, FB.c2.at 9 rfl⟩ | exact ⟨FB.c4.at 5 rfl, FB.c4.at 9 rfl⟩ | exact ⟨FC.c2.at 5 rfl, FC.c2.at 9 rfl⟩ | exact ⟨FC.c4.at 5 rfl, FC.c4.at 9 rfl⟩ | exact ⟨(FA.c4.set 10 _).at 5 rfl, (FA.c4.set 10 _).at 9 rfl⟩ | exact ⟨(FB.c4.set 10 _).at 5 rfl, (FB.c4.set 10 _).at 9 rfl⟩ | exact ⟨(FC.c4.set 10 _).at 5 rfl, (FC.c4.set 10 _).at 9 rfl⟩)
          clear hK K
          try simp only [Act.put, List.setIfInBounds_toArray, List.set_cons_zero, List.set_cons_succ]
          refine wpAnyH_ready (rs := [10]) (by kernel_rfl) (by simp) ?_
          refine AllReadyH.cons rfl (fun K hK => ?_) AllReadyH.nil
          refine step_append_run hrA2.out rfl (by rfl) (by rfl) (by rfl) ?_
          refine hK.out _ _ ?_ (fun hHeld => ?_)
          · (first | exact ⟨BC.drew.at 5 rfl, BC.drew.at 9 rfl⟩ | exact ⟨(BC.alloc _).drew.at 5 rfl, (BC.alloc _).drew.at 9 rfl⟩ | exact ⟨((BC.alloc _).alloc _).drew.at 5 rfl, ((BC.alloc _).alloc _).drew.at 9 rfl⟩ | exact ⟨FA.c2.at 5 rfl, FA.c2.at 9 rfl⟩ | exact ⟨FA.c3.at 5 rfl, FA.c3.at 9 rfl⟩ | exact ⟨FA.c4.at 5 rfl, FA.c4.at 9 rfl⟩ | exact ⟨FB.c2.at 5 rfl, FB.c2.at 9 rfl⟩ | exact ⟨FB.c4.at 5 rfl, FB.c4.at 9 rfl⟩ | exact ⟨FC.c2.at 5 rfl, FC.c2.at 9 rfl⟩ | exact ⟨FC.c4.at 5 rfl, FC.c4.at 9 rfl⟩ | exact ⟨(FA.c4.set 10 _).at 5 rfl, (FA.c4.set 10 _).at 9 rfl⟩ | exact ⟨(FB.c4.set 10 _).at 5 rfl, (FB.c4.set 10 _).at 9 rfl⟩ | exact ⟨(FC.c4.set 10 _).at 5 rfl, (FC.c4.set 10 _).at 9 rfl⟩)
          clear hK K
          try simp only [Act.put, List.setIfInBounds_toArray, List.set_cons_zero, List.set_cons_succ]
          refine wpAnyH_take (i := 11) (oi := ⟨_, _, _, _, _, _⟩) (v := ?_) rfl (by kernel_rfl) (by kernel_rfl) (by kernel_rfl) (fun _ _ _ h => h) (Or.inl ⟨by rfl, ?_⟩) (by assumption) ?_
          rotate_left
          · intro wS hSw
            try dsimp only at hSw
            go_simp
            try with_reducible rfl
          try simp only [Act.put, List.setIfInBounds_toArray, List.set_cons_zero, List.set_cons_succ]
          refine wpAnyH_ready (rs := [12]) (by kernel_rfl) (by simp) ?_
          refine AllReadyH.cons rfl (fun K hK => ?_) AllReadyH.nil
          go_simp
          refine hK.out _ _ ?_ (fun hHeld => ?_)
          · (first | exact ⟨BC.drew.at 5 rfl, BC.drew.at 9 rfl⟩ | exact ⟨(BC.alloc _).drew.at 5 rfl, (BC.alloc _).drew.at 9 rfl⟩ | exact ⟨((BC.alloc _).alloc _).drew.at 5 rfl, ((BC.alloc _).alloc _).drew.at 9 rfl⟩ | exact ⟨FA.c2.at 5 rfl, FA.c2.at 9 rfl⟩ | exact ⟨FA.c3.at 5 rfl, FA.c3.at 9 rfl⟩ | exact ⟨FA.c4.at 5 rfl, FA.c4.at 9 rfl⟩ | exact ⟨FB.c2.at 5 rfl, FB.c2.at 9 rfl⟩ | exact ⟨FB.c4.at 5 rfl, FB.c4.at 9 rfl⟩ | exact ⟨FC.c2.at 5 rfl, FC.c2.at 9 rfl⟩ | exact ⟨FC.c4.at 5 rfl, FC.c4.at 9 rfl⟩ | exact ⟨(FA.c4.set 10 _).at 5 rfl, (FA.c4.set 10 _).at 9 rfl⟩ | exact ⟨(FB.c4.set 10 _).at 5 rfl, (FB.c4.set 10 _).at 9 rfl⟩ | exact ⟨(FC.c4.set 10 _).at 5 rfl, (FC.c4.set 10 _).at 9 rfl⟩)
          clear hK K
          try simp only [Act.put, List.setIfInBounds_toArray, List.set_cons_zero, List.set_cons_succ]
          refine wpAnyH_done (by kernel_rfl) ?_ _
          go_wp2_with fail
          go_meet
          exact ⟨_, _, _, _, _, rfl, FA⟩
        · go_simp
          refine hK.out _ _ ?_ (fun hHeld => ?_)
          · (first | exact ⟨BC.drew.at 5 rfl, BC.drew.at 9 rfl⟩ | exact ⟨(BC.alloc _).drew.at 5 rfl, (BC.alloc _).drew.at 9 rfl⟩ | exact ⟨((BC.alloc _).alloc _).drew.at 5 rfl, ((BC.alloc _).alloc _).drew.at 9 rfl⟩ | exact ⟨FA.c2.at 5 rfl, FA.c2.at 9 rfl⟩ | exact ⟨FA.c3.at 5 rfl, FA.c3.at 9 rfl⟩ | exact ⟨FA.c4.at 5 rfl, FA.c4.at 9 rfl⟩ | exact ⟨FB.c2.at 5 rfl, FB.c2.at 9 rfl⟩ | exact ⟨FB.c4.at 5 rfl, FB.c4.at 9 rfl⟩ | exact ⟨FC.c2.at 5 rfl, FC.c2.at 9 rfl⟩ | exact ⟨FC.c4.at 5 rfl, FC.c4.at 9 rfl⟩ | exact ⟨(FA.c4.set 10 _).at 5 rfl, (FA.c4.set 10 _).at 9 rfl⟩ | exact ⟨(FB.c4.set 10 _).at 5 rfl, (FB.c4.set 10 _).at 9 rfl⟩ | exact ⟨(FC.c4.set 10 _).at 5 rfl, (FC.c4.set 10 _).at 9 rfl⟩)
          clear hK K
          try simp only [Act.put, List.setIfInBounds_toArray, List.set_cons_zero, List.set_cons_succ]
          refine wpAnyH_ready (rs := [3]) (by kernel_rfl) (by simp) ?_
          refine AllReadyH.cons rfl (fun K hK => ?_) AllReadyH.nil
          refine step_append_run hrB1.out rfl (by rfl) (by rfl) (by rfl) ?_
          refine hK.out _ _ ?_ (fun hHeld => ?_)
          · (first | exact ⟨BC.drew.at 5 rfl, BC.drew.at 9 rfl⟩ | exact ⟨(BC.alloc _).drew.at 5 rfl, (BC.alloc _).drew.at 9 rfl⟩ | exact ⟨((BC.alloc _).alloc _).drew.at 5 rfl, ((BC.alloc _).alloc _).drew.at 9 rfl⟩ | exact ⟨FA.c2.at 5 rfl, FA.c2.at 9 rfl⟩ | exact ⟨FA.c3.at 5 rfl, FA.c3.at 9 rfl⟩ | exact ⟨FA.c4.at 5 rfl, FA.c4.at 9 rfl⟩ | exact ⟨FB.c2.at 5 rfl, FB.c2.at 9 rfl⟩ | exact ⟨FB.c4.at 5 rfl, FB.c4.at 9 rfl⟩ | exact ⟨FC.c2.at 5 rfl, FC.c2.at 9 rfl⟩ | exact ⟨FC.c4.at 5 rfl, FC.c4.at 9 rfl⟩ | exact ⟨(FA.c4.set 10 _).at 5 rfl, (FA.c4.set 10 _).at 9 rfl⟩ | exact ⟨(FB.c4.set 10 _).at 5 rfl, (FB.c4.set 10 _).at 9 rfl⟩ | exact ⟨(FC.c4.set 10 _).at 5 rfl, (FC.c4.set 10 _).at 9 rfl⟩)
          clear hK K
          try simp only [Act.put, List.setIfInBounds_toArray, List.set_cons_zero, List.set_cons_succ]
          refine wpAnyH_ready (rs := [10]) (by kernel_rfl) (by simp) ?_
          refine AllReadyH.cons rfl (fun K hK => ?_) AllReadyH.nil
          refine step_append_run hrB2.out rfl (by rfl) (by rfl) (by rfl) ?_
          refine hK.out _ _ ?_ (fun hHeld => ?_)
          · (first | exact ⟨BC.drew.at 5 rfl, BC.drew.at 9 rfl⟩ | exact ⟨(BC.alloc _).drew.at 5 rfl, (BC.alloc _).drew.at 9 rfl⟩ | exact ⟨((BC.alloc _).alloc _).drew.at 5 rfl, ((BC.alloc _).alloc _).drew.at 9 rfl⟩ | exact ⟨FA.c2.at 5 rfl, FA.c2.at 9 rfl⟩ | exact ⟨FA.c3.at 5 rfl, FA.c3.at 9 rfl⟩ | exact ⟨FA.c4.at 5 rfl, FA.c4.at 9 rfl⟩ | exact ⟨FB.c2.at 5 rfl, FB.c2.at 9 rfl⟩ | exact ⟨FB.c4.at 5 rfl, FB.c4.at 9 rfl⟩ | exact ⟨FC.c2.at 5 rfl, FC.c2.at 9 rfl⟩ | exact ⟨FC.c4.at 5 rfl, FC.c4.at 9 rfl⟩ | exact ⟨(FA.c4.set 10 _).at 5 rfl, (FA.c4.set 10 _).at 9 rfl⟩ | exact ⟨(FB.c4.set 10 _).at 5 rfl, (FB.c4.set 10 _).at 9 rfl⟩ | exact ⟨(FC.c4.set 10 _).at 5 rfl, (FC.c4.set 10 _).at 9 rfl⟩)
          clear hK K
          try simp only [Act.put, List.setIfInBounds_toArray, List.set_cons_zero, List.set_cons_succ]
          refine wpAnyH_take (i := 11) (oi := ⟨_, _, _, _, _, _⟩) (v := ?_) rfl (by kernel_rfl) (by kernel_rfl) (by kernel_rfl) (fun _ _ _ h => h) (Or.inl ⟨by rfl, ?_⟩) (by assumption) ?_
          rotate_left
          · intro wS hSw
            try dsimp only at hSw
            go_simp
            try with_reducible rfl
          try simp only [Act.put, List.setIfInBounds_toArray, List.set_cons_zero, List.set_cons_succ]
          refine wpAnyH_ready (rs := [12]) (by kernel_rfl) (by simp) ?_
          refine AllReadyH.cons rfl (fun K hK => ?_) AllReadyH.nil
          go_simp
          refine hK.out _ _ ?_ (fun hHeld => ?_)
          · (first | exact ⟨BC.drew.at 5 rfl, BC.drew.at 9 rfl⟩ | exact ⟨(BC.alloc _).drew.at 5 rfl, (BC.alloc _).drew.at 9 rfl⟩ | exact ⟨((BC.alloc _).alloc _).drew.at 5 rfl, ((BC.alloc _).alloc _).drew.at 9 rfl⟩ | exact ⟨FA.c2.at 5 rfl, FA.c2.at 9 rfl⟩ | exact ⟨FA.c3.at 5 rfl, FA.c3.at 9 rfl⟩ | exact ⟨FA.c4.at 5 rfl, FA.c4.at 9 rfl⟩ | exact ⟨FB.c2.at 5 rfl, FB.c2.at 9 rfl⟩ | exact ⟨FB.c4.at 5 rfl, FB.c4.at 9 rfl⟩ | exact ⟨FC.c2.at 5 rfl, FC.c2.at 9 rfl⟩ | exact ⟨FC.c4.at 5 rfl, FC.c4.at 9 rfl⟩ | exact ⟨(FA.c4.set 10 _).at 5 rfl, (FA.c4.set 10 _).at 9 rfl⟩ | exact ⟨(FB.c4.set 10 _).at 5 rfl, (FB.c4.set 10 _).at 9 rfl⟩ | exact ⟨(FC.c4.set 10 _).at 5 rfl, (FC.c4.set 10 _).at 9 rfl⟩)
          clear hK K
          try simp only [Act.put, List.setIfInBounds_toArray, List.set_cons_zero, List.set_cons_succ]
          refine wpAnyH_done (by kernel_rfl) ?_ _
          go_wp2_with fail
          go_meet
          exact ⟨_, _, _, _, _, rfl, FB⟩
      · go_simp
        refine hK.out _ _ ?_ (fun hHeld => ?_)
        · (first | exact ⟨BC.drew.at 5 rfl, BC.drew.at 9 rfl⟩ | exact ⟨(BC.alloc _).drew.at 5 rfl, (BC.alloc _).drew.at 9 rfl⟩ | exact ⟨((BC.alloc _).alloc _).drew.at 5 rfl, ((BC.alloc _).alloc _).drew.at 9 rfl⟩ | exact ⟨FA.c2.at 5 rfl, FA.c2.at 9 rfl⟩ | exact ⟨FA.c3.at 5 rfl, FA.c3.at 9 rfl⟩ | exact ⟨FA.c4.at 5 rfl, FA.c4.at 9 rfl⟩ | exact ⟨FB.c2.at 5 rfl, FB.c2.at 9 rfl⟩ | exact ⟨FB.c4.at 5 rfl, FB.c4.at 9 rfl⟩ | exact ⟨FC.c2.at 5 rfl, FC.c2.at 9 rfl⟩ | exact ⟨FC.c4.at 5 rfl, FC.c4.at 9 rfl⟩ | exact ⟨(FA.c4.set 10 _).at 5 rfl, (FA.c4.set 10 _).at 9 rfl⟩ | exact ⟨(FB.c4.set 10 _).at 5 rfl, (FB.c4.set 10 _).at 9 rfl⟩ | exact ⟨(FC.c4.set 10 _).at 5 rfl, (FC.c4.set 10 _).at 9 rfl⟩)
        clear hK K
        try simp only [Act.put, List.setIfInBounds_toArray, List.set_cons_zero, List.set_cons_succ]
        refine wpAnyH_ready (rs := [0]) (by kernel_rfl) (by simp) ?_
        refine AllReadyH.cons rfl (fun K hK => ?_) AllReadyH.nil
        go_simp
        refine hK.out _ _ ?_ (fun hHeld => ?_)
        · (first | exact ⟨BC.drew.at 5 rfl, BC.drew.at 9 rfl⟩ | exact ⟨(BC.alloc _).drew.at 5 rfl, (BC.alloc _).drew.at 9 rfl⟩ | exact ⟨((BC.alloc _).alloc _).drew.at 5 rfl, ((BC.alloc _).alloc _).drew.at 9 rfl⟩ | exact ⟨FA.c2.at 5 rfl, FA.c2.at 9 rfl⟩ | exact ⟨FA.c3.at 5 rfl, FA.c3.at 9 rfl⟩ | exact ⟨FA.c4.at 5 rfl, FA.c4.at 9 rfl⟩ | exact ⟨FB.c2.at 5 rfl, FB.c2.at 9 rfl⟩ | exact ⟨FB.c4.at 5 rfl, FB.c4.at 9 rfl⟩ | exact ⟨FC.c2.at 5 rfl, FC.c2.at 9 rfl⟩ | exact ⟨FC.c4.at 5 rfl, FC.c4.at 9 rfl⟩ | exact ⟨(FA.c4.set 10 _).at 5 rfl, (FA.c4.set 10 _).at 9 rfl⟩ | exact ⟨(FB.c4.set 10 _).at 5 rfl, (FB.c4.set 10 _).at 9 rfl⟩ | exact ⟨(FC.c4.set 10 _).at 5 rfl, (FC.c4.set 10 _).at 9 rfl⟩)
        clear hK K
        try simp only [Act.put, List.setIfInBounds_toArray, List.set_cons_zero, List.set_cons_succ]
        refine wpAnyH_ready (rs := [3]) (by kernel_rfl) (by simp) ?_
        refine AllReadyH.cons rfl (fun K hK => ?_) AllReadyH.nil
        refine step_append_run hrC1.out rfl (by rfl) (by rfl) (by rfl) ?_
        refine hK.out _ _ ?_ (fun hHeld => ?_)
        · (first | exact ⟨BC.drew.at 5 rfl, BC.drew.at 9 rfl⟩ | exact ⟨(BC.alloc _).drew.at 5 rfl, (BC.alloc _).drew.at 9 rfl⟩ | exact ⟨((BC.alloc _).alloc _).drew.at 5 rfl, ((BC.alloc _).alloc _).drew.at 9 rfl⟩ | exact ⟨FA.c2.at 5 rfl, FA.c2.at 9 rfl⟩ | exact ⟨FA.c3.at 5 rfl, FA.c3.at 9 rfl⟩ | exact ⟨FA.c4.at 5 rfl, FA.c4.at 9 rfl⟩ | exact ⟨FB.c2.at 5 rfl, FB.c2.at 9 rfl⟩ | exact ⟨FB.c4.at 5 rfl, FB.c4.at 9 rfl⟩ | exact ⟨FC.c2.at 5 rfl, FC.c2.at 9 rfl⟩ | exact ⟨FC.c4.at 5 rfl, FC.c4.at 9 rfl⟩ | exact ⟨(FA.c4.set 10 _).at 5 rfl, (FA.c4.set 10 _).at 9 rfl⟩ | exact ⟨(FB.c4.set 10 _).at 5 rfl, (FB.c4.set 10 _).at 9 rfl⟩ | exact ⟨(FC.c4.set 10 _).at 5 rfl, (FC.c4.set 10 _).at 9 rfl⟩)
        clear hK K
        try simp only [Act.put, List.setIfInBounds_toArray, List.set_cons_zero, List.set_cons_succ]
        refine wpAnyH_ready (rs := [10]) (by kernel_rfl) (by simp) ?_
        refine AllReadyH.cons rfl (fun K hK => ?_) AllReadyH.nil
        refine step_append_run hrC2.out rfl (by rfl) (by rfl) (by rfl) ?_
        refine hK.out _ _ ?_ (fun hHeld => ?_)
        · (first | exact ⟨BC.drew.at 5 rfl, BC.drew.at 9 rfl⟩ | exact ⟨(BC.alloc _).drew.at 5 rfl, (BC.alloc _).drew.at 9 rfl⟩ | exact ⟨((BC.alloc _).alloc _).drew.at 5 rfl, ((BC.alloc _).alloc _).drew.at 9 rfl⟩ | exact ⟨FA.c2.at 5 rfl, FA.c2.at 9 rfl⟩ | exact ⟨FA.c3.at 5 rfl, FA.c3.at 9 rfl⟩ | exact ⟨FA.c4.at 5 rfl, FA.c4.at 9 rfl⟩ | exact ⟨FB.c2.at 5 rfl, FB.c2.at 9 rfl⟩ | exact ⟨FB.c4.at 5 rfl, FB.c4.at 9 rfl⟩ | exact ⟨FC.c2.at 5 rfl, FC.c2.at 9 rfl⟩ | exact ⟨FC.c4.at 5 rfl, FC.c4.at 9 rfl⟩ | exact ⟨(FA.c4.set 10 _).at 5 rfl, (FA.c4.set 10 _).at 9 rfl⟩ | exact ⟨(FB.c4.set 10 _).at 5 rfl, (FB.c4.set 10 _).at 9 rfl⟩ | exact ⟨(FC.c4.set 10 _).at 5 rfl, (FC.c4.set 10 _).at 9 rfl⟩)
        clear hK K
        try simp only [Act.put, List.setIfInBounds_toArray, List.set_cons_zero, List.set_cons_succ]
        refine wpAnyH_take (i := 11) (oi := ⟨_, _, _, _, _, _⟩) (v := ?_) rfl (by kernel_rfl) (by kernel_rfl) (by kernel_rfl) (fun _ _ _ h => h) (Or.inl ⟨by rfl, ?_⟩) (by assumption) ?_
        rotate_left
        · intro wS hSw
          try dsimp only at hSw
          go_simp
          try with_reducible rfl
        try simp only [Act.put, List.setIfInBounds_toArray, List.set_cons_zero, List.set_cons_succ]
        refine wpAnyH_ready (rs := [12]) (by kernel_rfl) (by simp) ?_
        refine AllReadyH.cons rfl (fun K hK => ?_) AllReadyH.nil
        go_simp
        refine hK.out _ _ ?_ (fun hHeld => ?_)
        · (first | exact ⟨BC.drew.at 5 rfl, BC.drew.at 9 rfl⟩ | exact ⟨(BC.alloc _).drew.at 5 rfl, (BC.alloc _).drew.at 9 rfl⟩ | exact ⟨((BC.alloc _).alloc _).drew.at 5 rfl, ((BC.alloc _).alloc _).drew.at 9 rfl⟩ | exact ⟨FA.c2.at 5 rfl, FA.c2.at 9 rfl⟩ | exact ⟨FA.c3.at 5 rfl, FA.c3.at 9 rfl⟩ | exact ⟨FA.c4.at 5 rfl, FA.c4.at 9 rfl⟩ | exact ⟨FB.c2.at 5 rfl, FB.c2.at 9 rfl⟩ | exact ⟨FB.c4.at 5 rfl, FB.c4.at 9 rfl⟩ | exact ⟨FC.c2.at 5 rfl, FC.c2.at 9 rfl⟩ | exact ⟨FC.c4.at 5 rfl, FC.c4.at 9 rfl⟩ | exact ⟨(FA.c4.set 10 _).at 5 rfl, (FA.c4.set 10 _).at 9 rfl⟩ | exact ⟨(FB.c4.set 10 _).at 5 rfl, (FB.c4.set 10 _).at 9 rfl⟩ | exact ⟨(FC.c4.set 10 _).at 5 rfl, (FC.c4.set 10 _).at 9 rfl⟩)
        clear hK K
        try simp only [Act.put, List.setIfInBounds_toArray, List.set_cons_zero, List.set_cons_succ]
        refine wpAnyH_done (by kernel_rfl) ?_ _
        go_wp2_with fail
        go_meet
        exact ⟨_, _, _, _, _, rfl, FC⟩
    · go_simp
      refine hK.out _ _ ?_ (fun hHeld => ?_)
      · (first | exact ⟨BC.drew.at 5 rfl, BC.drew.at 9 rfl⟩ | exact ⟨(BC.alloc _).drew.at 5 rfl, (BC.alloc _).drew.at 9 rfl⟩ | exact ⟨((BC.alloc _).alloc _).drew.at 5 rfl, ((BC.alloc _).alloc _).drew.at 9 rfl⟩ | exact ⟨FA.c2.at 5 rfl, FA.c2.at 9 rfl⟩ | exact ⟨FA.c3.at 5 rfl, FA.c3.at 9 rfl⟩ | exact ⟨FA.c4.at 5 rfl, FA.c4.at 9 rfl⟩ | exact ⟨FB.c2.at 5 rfl, FB.c2.at 9 rfl⟩ | exact ⟨FB.c4.at 5 rfl, FB.c4.at 9 rfl⟩ | exact ⟨FC.c2.at 5 rfl, FC.c2.at 9 rfl⟩ | exact ⟨FC.c4.at 5 rfl, FC.c4.at 9 rfl⟩ | exact ⟨(FA.c4.set 10 _).at 5 rfl, (FA.c4.set 10 _).at 9 rfl⟩ | exact ⟨(FB.c4.set 10 _).at 5 rfl, (FB.c4.set 10 _).at 9 rfl⟩ | exact ⟨(FC.c4.set 10 _).at 5 rfl, (FC.c4.set 10 _).at 9 rfl⟩)
      clear hK K
      try simp only [Act.put, List.setIfInBounds_toArray, List.set_cons_zero, List.set_cons_succ]
      refine wpAnyH_ready (rs := [0, 2]) (by kernel_rfl) (by simp) ?_
      refine AllReadyH.cons rfl (fun K hK => ?_) (AllReadyH.cons rfl (fun K hK => ?_) AllReadyH.nil)
      · go_simp
        refine hK.out _ _ ?_ (fun hHeld => ?_)
        · (first | exact ⟨BC.drew.at 5 rfl, BC.drew.at 9 rfl⟩ | exact ⟨(BC.alloc _).drew.at 5 rfl, (BC.alloc _).drew.at 9 rfl⟩ | exact ⟨((BC.alloc _).alloc _).drew.at 5 rfl, ((BC.alloc _).alloc _).drew.at 9 rfl⟩ | exact ⟨FA.c2.at 5 rfl, FA.c2.at 9 rfl⟩ | exact ⟨FA.c3.at 5 rfl, FA.c3.at 9 rfl⟩ | exact ⟨FA.c4.at 5 rfl, FA.c4.at 9 rfl⟩ | exact ⟨FB.c2.at 5 rfl, FB.c2.at 9 rfl⟩ | exact ⟨FB.c4.at 5 rfl, FB.c4.at 9 rfl⟩ | exact ⟨FC.c2.at 5 rfl, FC.c2.at 9 rfl⟩ | exact ⟨FC.c4.at 5 rfl, FC.c4.at 9 rfl⟩ | exact ⟨(FA.c4.set 10 _).at 5 rfl, (FA.c4.set 10 _).at 9 rfl⟩ | exact ⟨(FB.c4.set 10 _).at 5 rfl, (FB.c4.set 10 _).at 9 rfl⟩ | exact ⟨(FC.c4.set 10 _).at 5 rfl, (FC.c4.set 10 _).at 9 rfl⟩)
        clear hK K
        try simp only [Act.put, List.setIfInBounds_toArray, List.set_cons_zero, List.set_cons_succ]
        refine wpAnyH_ready (rs := [2]) (by kernel_rfl) (by simp) ?_
        refine AllReadyH.cons rfl (fun K hK => ?_) AllReadyH.nil
        go_simp
        refine hK.out _ _ ?_ (fun hHeld => ?_)
        · (first | exact ⟨BC.drew.at 5 rfl, BC.drew.at 9 rfl⟩ | exact ⟨(BC.alloc _).drew.at 5 rfl, (BC.alloc _).drew.at 9 rfl⟩ | exact ⟨((BC.alloc _).alloc _).drew.at 5 rfl, ((BC.alloc _).alloc _).drew.at 9 rfl⟩ | exact ⟨FA.c2.at 5 rfl, FA.c2.at 9 rfl⟩ | exact ⟨FA.c3.at 5 rfl, FA.c3.at 9 rfl⟩ | exact ⟨FA.c4.at 5 rfl, FA.c4.at 9 rfl⟩ | exact ⟨FB.c2.at 5 rfl, FB.c2.at 9 rfl⟩ | exact ⟨FB.c4.at 5 rfl, FB.c4.at 9 rfl⟩ | exact ⟨FC.c2.at 5 rfl, FC.c2.at 9 rfl⟩ | exact ⟨FC.c4.at 5 rfl, FC.c4.at 9 rfl⟩ | exact ⟨(FA.c4.set 10 _).at 5 rfl, (FA.c4.set 10 _).at 9 rfl⟩ | exact ⟨(FB.c4.set 10 _).at 5 rfl, (FB.c4.set 10 _).at 9 rfl⟩ | exact ⟨(FC.c4.set 10 _).at 5 rfl, (FC.c4.set 10 _).at 9 rfl⟩)
        clear hK K
        try simp only [Act.put, List.setIfInBounds_toArray, List.set_cons_zero, List.set_cons_succ]
        refine wpAnyH_ready (rs := [3]) (by kernel_rfl) (by simp) ?_
        refine AllReadyH.cons rfl (fun K hK => ?_) AllReadyH.nil
        refine step_append_run hrC1.out rfl (by rfl) (by rfl) (by rfl) ?_
        refine hK.out _ _ ?_ (fun hHeld => ?_)
        · (first | exact ⟨BC.drew.at 5 rfl, BC.drew.at 9 rfl⟩ | exact ⟨(BC.alloc _).drew.at 5 rfl, (BC.alloc _).drew.at 9 rfl⟩ | exact ⟨((BC.alloc _).alloc _).drew.at 5 rfl, ((BC.alloc _).alloc _).drew.at 9 rfl⟩ | exact ⟨FA.c2.at 5 rfl, FA.c2.at 9 rfl⟩ | exact ⟨FA.c3.at 5 rfl, FA.c3.at 9 rfl⟩ | exact ⟨FA.c4.at 5 rfl, FA.c4.at 9 rfl⟩ | exact ⟨FB.c2.at 5 rfl, FB.c2.at 9 rfl⟩ | exact ⟨FB.c4.at 5 rfl, FB.c4.at 9 rfl⟩ | exact ⟨FC.c2.at 5 rfl, FC.c2.at 9 rfl⟩ | exact ⟨FC.c4.at 5 rfl, FC.c4.at 9 rfl⟩ | exact ⟨(FA.c4.set 10 _).at 5 rfl, (FA.c4.set 10 _).at 9 rfl⟩ | exact ⟨(FB.c4.set 10 _).at 5 rfl, (FB.c4.set 10 _).at 9 rfl⟩ | exact ⟨(FC.c4.set 10 _).at 5 rfl, (FC.c4.set 10 _).at 9 rfl⟩)
        clear hK K
        try simp only [Act.put, List.setIfInBounds_toArray, List.set_cons_zero, List.set_cons_succ]
        refine wpAnyH_ready (rs := [10]) (by kernel_rfl) (by simp) ?_
        refine AllReadyH.cons rfl (fun K hK => ?_) AllReadyH.nil
        refine step_append_run hrC2.out rfl (by rfl) (by rfl) (by rfl) ?_
        refine hK.out _ _ ?_ (fun hHeld => ?_)
        · (first | exact ⟨BC.drew.at 5 rfl, BC.drew.at 9 rfl⟩ | exact ⟨(BC.alloc _).drew.at 5 rfl, (BC.alloc _).drew.at 9 rfl⟩ | exact ⟨((BC.alloc _).alloc _).drew.at 5 rfl, ((BC.alloc _).alloc _).drew.at 9 rfl⟩ | exact ⟨FA.c2.at 5 rfl, FA.c2.at 9 rfl⟩ | exact ⟨FA.c3.at 5 rfl, FA.c3.at 9 rfl⟩ | exact ⟨FA.c4.at 5 rfl, FA.c4.at 9 rfl⟩ | exact ⟨FB.c2.at 5 rfl, FB.c2.at 9 rfl⟩ | exact ⟨FB.c4.at 5 rfl, FB.c4.at 9 rfl⟩ | exact ⟨FC.c2.at 5 rfl, FC.c2.at 9 rfl⟩ | exact ⟨FC.c4.at 5 rfl, FC.c4.at 9 rfl⟩ | exact ⟨(FA.c4.set 10 _).at 5 rfl, (FA.c4.set 10 _).at 9 rfl⟩ | exact ⟨(FB.c4.set 10 _).at 5 rfl, (FB.c4.set 10 _).at 9 rfl⟩ | exact ⟨(FC.c4.set 10 _).at 5 rfl, (FC.c4.set 10 _).at 9 rfl⟩)
        clear hK K
        try simp only [Act.put, List.setIfInBounds_toArray, List.set_cons_zero, List.set_cons_succ]
        refine wpAnyH_take (i := 11) (oi := ⟨_, _, _, _, _, _⟩) (v := ?_) rfl (by kernel_rfl) (by kernel_rfl) (by kernel_rfl) (fun _ _ _ h => h) (Or.inl ⟨by rfl, ?_⟩) (by assumption) ?_
        rotate_left
        · intro wS hSw
          try dsimp only at hSw
          go_simp
          try with_reducible rfl
        try simp only [Act.put, List.setIfInBounds_toArray, List.set_cons_zero, List.set_cons_succ]
        refine wpAnyH_ready (rs := [12]) (by kernel_rfl) (by simp) ?_
        refine AllReadyH.cons rfl (fun K hK => ?_) AllReadyH.nil
        go_simp
        refine hK.out _ _ ?_ (fun hHeld => ?_)
        · (first | exact ⟨BC.drew.at 5 rfl, BC.drew.at 9 rfl⟩ | exact ⟨(BC.alloc _).drew.at 5 rfl, (BC.alloc _).drew.at 9 rfl⟩ | exact ⟨((BC.alloc _).alloc _).drew.at 5 rfl, ((BC.alloc _).alloc _).drew.at 9 rfl⟩ | exact ⟨FA.c2.at 5 rfl, FA.c2.at 9 rfl⟩ | exact ⟨FA.c3.at 5 rfl, FA.c3.at 9 rfl⟩ | exact ⟨FA.c4.at 5 rfl, FA.c4.at 9 rfl⟩ | exact ⟨FB.c2.at 5 rfl, FB.c2.at 9 rfl⟩ | exact ⟨FB.c4.at 5 rfl, FB.c4.at 9 rfl⟩ | exact ⟨FC.c2.at 5 rfl, FC.c2.at 9 rfl⟩ | exact ⟨FC.c4.at 5 rfl, FC.c4.at 9 rfl⟩ | exact ⟨(FA.c4.set 10 _).at 5 rfl, (FA.c4.set 10 _).at 9 rfl⟩ | exact ⟨(FB.c4.set 10 _).at 5 rfl, (FB.c4.set 10 _).at 9 rfl⟩ | exact ⟨(FC.c4.set 10 _).at 5 rfl, (FC.c4.set 10 _).at 9 rfl⟩)
        clear hK K
        try simp only [Act.put, List.setIfInBounds_toArray, List.set_cons_zero, List.set_cons_succ]
        refine wpAnyH_done (by kernel_rfl) ?_ _
        go_wp2_with fail
        go_meet
        exact ⟨_, _, _, _, _, rfl, FC⟩
      · go_simp
        refine hK.out _ _ ?_ (fun hHeld => ?_)
        · (first | exact ⟨BC.drew.at 5 rfl, BC.drew.at 9 rfl⟩ | exact ⟨(BC.alloc _).drew.at 5 rfl, (BC.alloc _).drew.at 9 rfl⟩ | exact ⟨((BC.alloc _).alloc _).drew.at 5 rfl, ((BC.alloc _).alloc _).drew.at 9 rfl⟩ | exact ⟨FA.c2.at 5 rfl, FA.c2.at 9 rfl⟩ | exact ⟨FA.c3.at 5 rfl, FA.c3.at 9 rfl⟩ | exact ⟨FA.c4.at 5 rfl, FA.c4.at 9 rfl⟩ | exact ⟨FB.c2.at 5 rfl, FB.c2.at 9 rfl⟩ | exact ⟨FB.c4.at 5 rfl, FB.c4.at 9 rfl⟩ | exact ⟨FC.c2.at 5 rfl, FC.c2.at 9 rfl⟩ | exact ⟨FC.c4.at 5 rfl, FC.c4.at 9 rfl⟩ | exact ⟨(FA.c4.set 10 _).at 5 rfl, (FA.c4.set 10 _).at 9 rfl⟩ | exact ⟨(FB.c4.set 10 _).at 5 rfl, (FB.c4.set 10 _).at 9 rfl⟩ | exact ⟨(FC.c4.set 10 _).at 5 rfl, (FC.c4.set 10 _).at 9 rfl⟩)
        clear hK K
        try simp only [Act.put, List.setIfInBounds_toArray, List.set_cons_zero, List.set_cons_succ]
        refine wpAnyH_ready (rs := [0]) (by kernel_rfl) (by simp) ?_
        refine AllReadyH.cons rfl (fun K hK => ?_) AllReadyH.nil
        go_simp
        refine hK.out _ _ ?_ (fun hHeld => ?_)
        · (first | exact ⟨BC.drew.at 5 rfl, BC.drew.at 9 rfl⟩ | exact ⟨(BC.alloc _).drew.at 5 rfl, (BC.alloc _).drew.at 9 rfl⟩ | exact ⟨((BC.alloc _).alloc _).drew.at 5 rfl, ((BC.alloc _).alloc _).drew.at 9 rfl⟩ | exact ⟨FA.c2.at 5 rfl, FA.c2.at 9 rfl⟩ | exact ⟨FA.c3.at 5 rfl, FA.c3.at 9 rfl⟩ | exact ⟨FA.c4.at 5 rfl, FA.c4.at 9 rfl⟩ | exact ⟨FB.c2.at 5 rfl, FB.c2.at 9 rfl⟩ | exact ⟨FB.c4.at 5 rfl, FB.c4.at 9 rfl⟩ | exact ⟨FC.c2.at 5 rfl, FC.c2.at 9 rfl⟩ | exact ⟨FC.c4.at 5 rfl, FC.c4.at 9 rfl⟩ | exact ⟨(FA.c4.set 10 _).at 5 rfl, (FA.c4.set 10 _).at 9 rfl⟩ | exact ⟨(FB.c4.set 10 _).at 5 rfl, (FB.c4.set 10 _).at 9 rfl⟩ | exact ⟨(FC.c4.set 10 _).at 5 rfl, (FC.c4.set 10 _).at 9 rfl⟩)
        clear hK K
        try simp only [Act.put, List.setIfInBounds_toArray, List.set_cons_zero, List.set_cons_succ]
        refine wpAnyH_ready (rs := [3]) (by kernel_rfl) (by simp) ?_
        refine AllReadyH.cons rfl (fun K hK => ?_) AllReadyH.nil
        refine step_append_run hrC1.out rfl (by rfl) (by rfl) (by rfl) ?_
        refine hK.out _ _ ?_ (fun hHeld => ?_)
        · (first | exact ⟨BC.drew.at 5 rfl, BC.drew.at 9 rfl⟩ | exact ⟨(BC.alloc _).drew.at 5 rfl, (BC.alloc _).drew.at 9 rfl⟩ | exact ⟨((BC.alloc _).alloc _).drew.at 5 rfl, ((BC.alloc _).alloc _).drew.at 9 rfl⟩ | exact ⟨FA.c2.at 5 rfl, FA.c2.at 9 rfl⟩ | exact ⟨FA.c3.at 5 rfl, FA.c3.at 9 rfl⟩ | exact ⟨FA.c4.at 5 rfl, FA.c4.at 9 rfl⟩ | exact ⟨FB.c2.at 5 rfl, FB.c2.at 9 rfl⟩ | exact ⟨FB.c4.at 5 rfl, FB.c4.at 9 rfl⟩ | exact ⟨FC.c2.at 5 rfl, FC.c2.at 9 rfl⟩ | exact ⟨FC.c4.at 5 rfl, FC.c4.at 9 rfl⟩ | exact ⟨(FA.c4.set 10 _).at 5 rfl, (FA.c4.set 10 _).at 9 rfl⟩ | exact ⟨(FB.c4.set 10 _).at 5 rfl, (FB.c4.set 10 _).at 9 rfl⟩ | exact ⟨(FC.c4.set 10 _).at 5 rfl, (FC.c4.set 10 _).at 9 rfl⟩)
        clear hK K
        try simp only [Act.put, List.setIfInBounds_toArray, List.set_cons_zero, List.set_cons_succ]
        refine wpAnyH_ready (rs := [10]) (by kernel_rfl) (by simp) ?_
        refine AllReadyH.cons rfl (fun K hK => ?_) AllReadyH.nil
        refine step_append_run hrC2.out rfl (by rfl) (by rfl) (by rfl) ?_
        refine hK.out _ _ ?_ (fun hHeld => ?_)
        · (first | exact ⟨BC.drew.at 5 rfl, BC.drew.at 9 rfl⟩ | exact ⟨(BC.alloc _).drew.at 5 rfl, (BC.alloc _).drew.at 9 rfl⟩ | exact ⟨((BC.alloc _).alloc _).drew.at 5 rfl, ((BC.alloc _).alloc _).drew.at 9 rfl⟩ | exact ⟨FA.c2.at 5 rfl, FA.c2.at 9 rfl⟩ | exact ⟨FA.c3.at 5 rfl, FA.c3.at 9 rfl⟩ | exact ⟨FA.c4.at 5 rfl, FA.c4.at 9 rfl⟩ | exact ⟨FB.c2.at 5 rfl, FB.c2.at 9 rfl⟩ | exact ⟨FB.c4.at 5 rfl, FB.c4.at 9 rfl⟩ | exact ⟨FC.c2.at 5 rfl, FC.c2.at 9 rfl⟩ | exact ⟨FC.c4.at 5 rfl, FC.c4.at 9 rfl⟩ | exact ⟨(FA.c4.set 10 _).at 5 rfl, (FA.c4.set 10 _).at 9 rfl⟩ | exact ⟨(FB.c4.set 10 _).at 5 rfl, (FB.c4.set 10 _).at 9 rfl⟩ | exact ⟨(FC.c4.set 10 _).at 5 rfl, (FC.c4.set 10 _).at 9 rfl⟩)
        clear hK K
        try simp only [Act.put, List.setIfInBounds_toArray, List.set_cons_zero, List.set_cons_succ]
        refine wpAnyH_take (i := 11) (oi := ⟨_, _, _, _, _, _⟩) (v := ?_) rfl (by kernel_rfl) (by kernel_rfl) (by kernel_rfl) (fun _ _ _ h => h) (Or.inl ⟨by rfl, ?_⟩) (by assumption) ?_
        rotate_left
        · intro wS hSw
          try dsimp only at hSw
          go_simp
          try with_reducible rfl
        try simp only [Act.put, List.setIfInBounds_toArray, List.set_cons_zero, List.set_cons_succ]
        refine wpAnyH_ready (rs := [12]) (by kernel_rfl) (by simp) ?_
        refine AllReadyH.cons rfl (fun K hK => ?_) AllReadyH.nil
        go_simp
        refine hK.out _ _ ?_ (fun hHeld => ?_)
        · (first | exact ⟨BC.drew.at 5 rfl, BC.drew.at 9 rfl⟩ | exact ⟨(BC.alloc _).drew.at 5 rfl, (BC.alloc _).drew.at 9 rfl⟩ | exact ⟨((BC.alloc _).alloc _).drew.at 5 rfl, ((BC.alloc _).alloc _).drew.at 9 rfl⟩ | exact ⟨FA.c2.at 5 rfl, FA.c2.at 9 rfl⟩ | exact ⟨FA.c3.at 5 rfl, FA.c3.at 9 rfl⟩ | exact ⟨FA.c4.at 5 rfl, FA.c4.at 9 rfl⟩ | exact ⟨FB.c2.at 5 rfl, FB.c2.at 9 rfl⟩ | exact ⟨FB.c4.at 5 rfl, FB.c4.at 9 rfl⟩ | exact ⟨FC.c2.at 5 rfl, FC.c2.at 9 rfl⟩ | exact ⟨FC.c4.at 5 rfl, FC.c4.at 9 rfl⟩ | exact ⟨(FA.c4.set 10 _).at 5 rfl, (FA.c4.set 10 _).at 9 rfl⟩ | exact ⟨(FB.c4.set 10 _).at 5 rfl, (FB.c4.set 10 _).at 9 rfl⟩ | exact ⟨(FC.c4.set 10 _).at 5 rfl, (FC.c4.set 10 _).at 9 rfl⟩)
        clear hK K
        try simp only [Act.put, List.setIfInBounds_toArray, List.set_cons_zero, List.set_cons_succ]
        refine wpAnyH_done (by kernel_rfl) ?_ _
        go_wp2_with fail
        go_meet
        exact ⟨_, _, _, _, _, rfl, FC⟩
  case rest =>
    obtain ⟨g, cap, V2, V3, wf, rfl, F⟩ := hcut
    have hge := F.own.lt g rfl
    have BC4 := F.c4.set 10 (.slice (some ⟨g, 0, none⟩) (s.L.length + 1) cap)
    have BR4 : Blk (wf.setCell ⟨w.heap.size, 10, none⟩ (.slice (some ⟨g, 0, none⟩) (s.L.length + 1) cap)) (w.heap.size + 2) dchZ 40 := F.r4.far ⟨w.heap.size, 10, none⟩ _ (by show w.heap.size + 2 ≠ w.heap.size; omega)
    have hB4 : Below w.heap.size w (wf.setCell ⟨w.heap.size, 10, none⟩ (.slice (some ⟨g, 0, none⟩) (s.L.length + 1) cap)) := F.b4.setCell (p := ⟨w.heap.size, 10, none⟩) (Nat.le_refl _) _
    have hO4 := F.own.far ⟨w.heap.size, 10, none⟩ (.slice (some ⟨g, 0, none⟩) (s.L.length + 1) cap) (by simp only [Value.ownBlock, ne_eq, Option.some.injEq]; omega)
    clear F FA FB FC d5 d6 d7 d8 d9 d10 f5 f6 f7 f8 f9 r1 r2 a10 b10 c10 fa10 fb10 fc10
    generalize wf.setCell ⟨w.heap.size, 10, none⟩ (.slice (some ⟨g, 0, none⟩) (s.L.length + 1) cap) = w4 at BC4 BR4 hB4 hO4 ⊢
    have e5 : w4.cell? ⟨w.heap.size, 5, none⟩ = some (.int .i64 s.th) := BC4.at 5 rfl
    have f5 := BC4.free 5
    have e6 : w4.cell? ⟨w.heap.size, 6, none⟩ = some (.int .i64 (s.at_ : Int)) := BC4.at 6 rfl
    rw [he] at e6
    have f6 := BC4.free 6
    have BF : Blk ((w4.setCell ⟨w.heap.size, 5, none⟩ (.int .i64 ((s.th : Int) + 1))).setCell ⟨w.heap.size, 6, none⟩ (.int .i64 0)) w.heap.size (dchA A T r { s with L := s.L ++ [((s.th : Int), s.ph)], th := s.th + 1, at_ := 0 } (some ⟨g, 0, none⟩) cap) 40 := by simpa [dchA] using (BC4.set 5 (.int .i64 ((s.th : Int) + 1))).set 6 (.int .i64 0)
    have BRF : Blk ((w4.setCell ⟨w.heap.size, 5, none⟩ (.int .i64 ((s.th : Int) + 1))).setCell ⟨w.heap.size, 6, none⟩ (.int .i64 0)) (w.heap.size + 2) dchZ 40 := (BR4.far ⟨w.heap.size, 5, none⟩ (.int .i64 ((s.th : Int) + 1)) (by show w.heap.size + 2 ≠ w.heap.size; omega)).far ⟨w.heap.size, 6, none⟩ (.int .i64 0) (by show w.heap.size + 2 ≠ w.heap.size; omega)
    have hBF : Below w.heap.size w ((w4.setCell ⟨w.heap.size, 5, none⟩ (.int .i64 ((s.th : Int) + 1))).setCell ⟨w.heap.size, 6, none⟩ (.int .i64 0)) := (hB4.setCell (p := ⟨w.heap.size, 5, none⟩) (Nat.le_refl _) (.int .i64 ((s.th : Int) + 1))).setCell (p := ⟨w.heap.size, 6, none⟩) (Nat.le_refl _) (.int .i64 0)
    have hOF := (hO4.far ⟨w.heap.size, 5, none⟩ (.int .i64 ((s.th : Int) + 1)) (by simp only [Value.ownBlock, ne_eq, Option.some.injEq]; omega)).far ⟨w.heap.size, 6, none⟩ (.int .i64 0) (by simp only [Value.ownBlock, ne_eq, Option.some.injEq]; omega)
    go_wp2_with (first
      | (refine wpList_load_row rfl 40 _ rfl w.heap.size rfl 40 _ (0, 0) _ BF.h Try.underlying40 rfl (by kernel_rfl) ?_)
      | (refine wpList_store_row rfl 40 _ _ rfl (w.heap.size + 2) _ rfl rfl 40 _ BRF.h (by kernel_rfl) (by rfl) (by kernel_rfl) ?_))
    refine bodyPost_ret (results_cell_row rfl _ _ (w.heap.size + 2) 40 (dchA A T r _ (some ⟨g, 0, none⟩) cap) (0, 0) _ rfl (Blk.row BRF _).h Try.underlying40 rfl (by kernel_rfl)) rfl ⟨⟨g, cap, rfl, (ownR_offrow hOF (w.heap.size + 2) _ (by simp only [Value.ownBlock, ne_eq, Option.some.injEq]; omega)).lower (by omega)⟩, below_setRow hBF (by omega) _⟩
end Go.Proofs.Ytpimifnibdjhfaa.MemP
