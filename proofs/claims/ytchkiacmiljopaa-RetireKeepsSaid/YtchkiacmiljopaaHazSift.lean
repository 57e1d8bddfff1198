/-
  Chapter 27: sifting.
-/
import Derived.Test.YtchkiacmiljopaaHazWalk
namespace Go.Proofs.Ytchkiacmiljopaa.HazP
open Go.RowKit RefP
set_option linter.unusedVariables false
set_option linter.unusedSimpArgs false

set_option maxRecDepth 100000 in
set_option maxHeartbeats 1600000 in
theorem dsift_any (a b : Option Addr) (c d : Nat) (l nm : List Int) (keep : Bool) (w : World) (h : U64s w a l) (hn : U64s w b nm) (hsm : l.length ≤ 60000) :
    Calls Try.prog 41 #[.slice a l.length c, .slice b nm.length d, .bool keep] w (WordsAt w (siftL l nm keep)) := by
  have hlen := h.len
  go_enter Try.func41, Try.ntmps41
  go_wp2_with fail
  go_loopw [7, 8] (fun u7 u8 wr => ∃ (k : Nat) (ya : Option Addr) (yc : Nat), k ≤ l.length ∧ u8 = .int .i64 k ∧ u7 = .slice ya (siftL (l.take k) nm keep).length yc ∧ Below w.heap.size w wr ∧ OwnsU wr w.heap.size ya yc (siftL (l.take k) nm keep)) (fun _ i _ => l.length - (intOf i).toNat)
  case atStart => exact ⟨0, none, 0, Nat.zero_le _, rfl, by rw [siftL_zero]; rfl, Below.refl _ _, by rw [siftL_zero]; exact OwnsU.nil _ _⟩
  case round =>
    obtain ⟨k, ya, yc, hk, rfl, rfl, hb, Y⟩ := hrel
    have hbs := hb.size
    by_cases hlt : k < l.length
    · obtain ⟨b', off, rfl, hbl, hc⟩ := (h.below hb).cell k hlt
      have hN := hn.below hb
      have hx := h.rngD k
      have hlt' : (k : Int) < (l.length : Int) := by omega
      have hsl := siftL_length (l.take k) nm keep
      simp only [List.length_take] at hsl
      by_cases hm : memB nm (at0 l k) = keep
      · have hq : (memB nm (at0 l k) == keep) = true := by simp [hm]
        have hS := siftL_yes hlt hm
        clear hm
        obtain ⟨g, cap, w', A⟩ := addOne w.heap.size Y (at0 l k) hx (by omega) hbs
        have hrun := Lib.hid A.run
        have AO := A.own
        have AB := A.keeps (fun k e => (Y.lt k e).1) w w.heap.size (Nat.le_refl _) (below_alloc2 hb (Nat.le_refl _) _) (by simp; omega)
        have hl1 : (siftL (l.take (k + 1)) nm keep).length = (siftL (l.take k) nm keep).length + 1 := by rw [hS]; simp
        rw [← hS] at AO
        clear A hS Y
        go_wp2_with fail
        refine (dnamed_any _ _ _ _ _ hN).mono ?_
        rintro e w1 ⟨rfl, rfl⟩
        go_wp2_with (at_builtin; refine wpList_append_run hrun.out rfl (by rfl) (by rfl) (by rfl) ?_)
        go_roundw
        case rel => exact ⟨k + 1, _, _, by omega, by go_num, by rw [hl1], AB, AO⟩
        case measure => simp [intOf]; omega
      · have hm : memB nm (at0 l k) = !keep := by cases h1 : memB nm (at0 l k) <;> cases keep <;> simp_all
        have hq : (memB nm (at0 l k) == keep) = false := by rw [hm]; cases keep <;> rfl
        have hS := siftL_no hlt hm
        clear hm
        go_wp2_with fail
        refine (dnamed_any _ _ _ _ _ hN).mono ?_
        rintro e w1 ⟨rfl, rfl⟩
        go_wp2_with fail
        go_roundw
        case rel => exact ⟨k + 1, _, _, by omega, by go_num, by rw [hS], hb, by rw [hS]; exact Y⟩
        case measure => simp [intOf]; omega
    · obtain rfl : k = l.length := by omega
      rw [List.take_length] at Y ⊢
      go_wp2_with fail
      go_ret
      exact ⟨_, _, rfl, Y, hb⟩

theorem sifter_any (b : Option Addr) (d bk : Nat) (nm : List Int) (x : Int) (w : World) (hn : U64s w b nm) (B : Blk w bk #[.slice b nm.length d] 29) :
    Calls Try.prog 63 #[.int .u64 x, .pointer (some ⟨bk, 0, none⟩)] w fun e w' => e = .returned (.bool (memB nm x)) ∧ w = w' := by
  have b0 := B.at 0 rfl
  go_enter Try.func63, Try.ntmps63
  go_wp2_with fail
  refine (named_any _ _ _ _ _ hn).mono ?_
  rintro e w1 ⟨rfl, rfl⟩
  go_wp2_with fail
  go_ret
  exact ⟨rfl, rfl⟩

def SiftAt (w : World) (l nm : List Int) (e : Ending) (w' : World) : Prop :=
  ∃ ya yc na nc, e = .returned (.tuple #[.slice ya (siftL l nm true).length yc, .slice na (siftL l nm false).length nc]) ∧ OwnsU w' w.heap.size ya yc (siftL l nm true) ∧ OwnsU w' w.heap.size na nc (siftL l nm false) ∧ Below w.heap.size w w'
structure PartRel (w wr : World) (l nm : List Int) (k : Nat) (ya : Option Addr) (yc : Nat) (na : Option Addr) (nc : Nat) : Prop where
  b : Below w.heap.size w wr
  Y : OwnsU wr w.heap.size ya yc (siftL (l.take k) nm true)
  N : OwnsU wr w.heap.size na nc (siftL (l.take k) nm false)
  ne : ∀ p q, ya = some p → na = some q → p.block ≠ q.block
theorem own_none {a : Option Addr} {n c m d : Nat} {b : Option Addr} (h : ∀ p q, a = some p → b = some q → p.block ≠ q.block) : (Value.slice a n c).ownBlock = none ∨ (Value.slice a n c).ownBlock ≠ (Value.slice b m d).ownBlock := by
  cases a with
  | none => exact .inl rfl
  | some p =>
    refine .inr ?_
    cases b with
    | none => simp [Value.ownBlock]
    | some q => simpa [Value.ownBlock] using h p q rfl rfl
theorem new_ne {w : World} {base : Nat} {a : Option Addr} {c : Nat} {l : List Int} {b : Option Addr} {d : Nat} {m : List Int} {g H : Nat} (hN : OwnsU w base b d m) (hne : ∀ p q, a = some p → b = some q → p.block ≠ q.block)
    (hat : (Value.slice a l.length c).ownBlock = some g ∨ g = H) (hH : w.heap.size ≤ H) : ∀ p q, some (⟨g, 0, none⟩ : Addr) = some p → b = some q → p.block ≠ q.block := by
  intro p q hp hq
  simp only [Option.some.injEq] at hp
  subst hp hq
  rcases hat with e | e
  · cases a with
    | none => cases e
    | some r =>
      simp only [Value.ownBlock, Option.some.injEq] at e
      subst e
      exact hne r q rfl rfl
  · have := (hN.lt q.block rfl).2
    show g ≠ q.block
    omega

set_option maxRecDepth 100000 in
set_option maxHeartbeats 1600000 in
theorem part_any (a b : Option Addr) (c d bk : Nat) (l nm : List Int) (w : World) (h : U64s w a l) (hn : U64s w b nm) (B : Blk w bk #[.slice b nm.length d] 29) (hsm : l.length ≤ 60000) :
    Calls Try.prog 62 #[.slice a l.length c, .func (.func 63) #[] #[.pointer (some ⟨bk, 0, none⟩)]] w (SiftAt w l nm) := by
  have hlen := h.len
  go_enter Try.func62, Try.ntmps62
  go_wp2_with fail
  go_loopw [4, 5, 10] (fun u4 u5 u10 wr => ∃ (k : Nat) (ya : Option Addr) (yc : Nat) (na : Option Addr) (nc : Nat), k ≤ l.length ∧ u10 = .int .i64 k ∧ u4 = .slice ya (siftL (l.take k) nm true).length yc ∧ u5 = .slice na (siftL (l.take k) nm false).length nc ∧ PartRel w wr l nm k ya yc na nc) (fun _ _ i _ => l.length - (intOf i).toNat)
  case atStart => exact ⟨0, none, 0, none, 0, Nat.zero_le _, rfl, by rw [siftL_zero]; rfl, by rw [siftL_zero]; rfl, Below.refl _ _, by rw [siftL_zero]; exact OwnsU.nil _ _, by rw [siftL_zero]; exact OwnsU.nil _ _, by simp⟩
  case round =>
    obtain ⟨k, ya, yc, na, nc, hk, rfl, rfl, rfl, R⟩ := hrel
    have hb := R.b
    have hbs := hb.size
    by_cases hlt : k < l.length
    · obtain ⟨b', off, rfl, hbl, hc⟩ := (h.below hb).cell k hlt
      have hF := sifter_any b d bk nm (at0 l k) wr (hn.below hb) (B.below hb)
      have hx := h.rngD k
      have hlt' : (k : Int) < (l.length : Int) := by omega
      have hs1 := siftL_length (l.take k) nm true
      have hs2 := siftL_length (l.take k) nm false
      simp only [List.length_take] at hs1 hs2
      cases hm : memB nm (at0 l k)
      · rw [hm] at hF
        have hS := siftL_yes (keep := false) hlt hm
        have hT := siftL_no (keep := true) hlt hm
        clear hm
        obtain ⟨g, cap, w', A⟩ := addOne w.heap.size R.N (at0 l k) hx (by omega) hbs
        have hrun := Lib.hid A.run
        have AN := A.own
        have AY := (R.Y.below ((Below.refl _ wr).alloc (Nat.le_refl _) (.cells #[.int .u64 (at0 l k)] 35))).kept A.grown (own_none R.ne)
        have AB := A.keeps (fun k e => (R.N.lt k e).1) w w.heap.size (Nat.le_refl _) (below_alloc2 hb (Nat.le_refl _) _) (by simp; omega)
        have AE := new_ne R.Y (fun p q e1 e2 => (R.ne q p e2 e1).symm) A.at' (by simp)
        have hl1 : (siftL (l.take (k + 1)) nm false).length = (siftL (l.take k) nm false).length + 1 := by rw [hS]; simp
        rw [← hS] at AN
        rw [← hT] at AY
        have R2 : PartRel w w' l nm (k + 1) ya yc (some ⟨g, 0, none⟩) cap := ⟨AB, AY, AN, fun p q e1 e2 => (AE q p e2 e1).symm⟩
        clear A hS AN AY AB AE R
        go_wp2_with fail
        go_at_call 63
        refine hF.mono ?_
        rintro e w1 ⟨rfl, rfl⟩
        go_wp2_with (at_builtin; refine wpList_append_run hrun.out rfl (by rfl) (by rfl) (by rfl) ?_)
        go_roundw
        case rel => exact ⟨k + 1, _, _, _, _, by omega, by go_num, by rw [hT], by rw [hl1], R2⟩
        case measure => simp [intOf]; omega
      · rw [hm] at hF
        have hS := siftL_yes (keep := true) hlt hm
        have hT := siftL_no (keep := false) hlt hm
        clear hm
        obtain ⟨g, cap, w', A⟩ := addOne w.heap.size R.Y (at0 l k) hx (by omega) hbs
        have hrun := Lib.hid A.run
        have AY := A.own
        have AN := (R.N.below ((Below.refl _ wr).alloc (Nat.le_refl _) (.cells #[.int .u64 (at0 l k)] 35))).kept A.grown (own_none (fun p q e1 e2 => (R.ne q p e2 e1).symm))
        have AB := A.keeps (fun k e => (R.Y.lt k e).1) w w.heap.size (Nat.le_refl _) (below_alloc2 hb (Nat.le_refl _) _) (by simp; omega)
        have AE := new_ne R.N R.ne A.at' (by simp)
        have hl1 : (siftL (l.take (k + 1)) nm true).length = (siftL (l.take k) nm true).length + 1 := by rw [hS]; simp
        rw [← hS] at AY
        rw [← hT] at AN
        have R2 : PartRel w w' l nm (k + 1) (some ⟨g, 0, none⟩) cap na nc := ⟨AB, AY, AN, AE⟩
        clear A hS AN AY AB AE R
        go_wp2_with fail
        go_at_call 63
        refine hF.mono ?_
        rintro e w1 ⟨rfl, rfl⟩
        go_wp2_with (at_builtin; refine wpList_append_run hrun.out rfl (by rfl) (by rfl) (by rfl) ?_)
        go_roundw
        case rel => exact ⟨k + 1, _, _, _, _, by omega, by go_num, by rw [hl1], by rw [hT], R2⟩
        case measure => simp [intOf]; omega
    · obtain rfl : k = l.length := by omega
      have RY := R.Y
      have RN := R.N
      rw [List.take_length] at RY RN ⊢
      go_wp2_with fail
      go_ret2
      exact ⟨_, _, _, _, rfl, RY, RN, hb⟩

set_option maxHeartbeats 800000 in
theorem sift_any (a b : Option Addr) (c d : Nat) (l nm : List Int) (w : World) (h : U64s w a l) (hn : U64s w b nm) (hsm : l.length ≤ 60000) :
    Calls Try.prog 46 #[.slice a l.length c, .slice b nm.length d] w (SiftAt w l nm) := by
  have hmf : ∀ (fn : Fn) (first cap : Array Value) (w : World), (Instr.makeFunc fn first cap).run Try.prog w = .ok (.func fn first cap) w := fun _ _ _ _ => rfl
  have hB : Below w.heap.size w (w.alloc (.cells #[.slice b nm.length d] 29)) := (Below.refl _ w).alloc (Nat.le_refl _) _
  go_enter Try.func46, Try.ntmps46
  go_wp2_with fail
  refine (part_any a b c d _ l nm _ (h.below hB) (hn.below hB) (Blk.new w _ _) hsm).mono ?_
  rintro e w1 ⟨ya, yc, na, nc, rfl, Y, N, hb⟩
  go_wp2_with fail
  go_ret2
  exact ⟨_, _, _, _, rfl, Y.lower (by simp), N.lower (by simp), below_push2 hB hb (Nat.le_refl _)⟩
end Go.Proofs.Ytchkiacmiljopaa.HazP
