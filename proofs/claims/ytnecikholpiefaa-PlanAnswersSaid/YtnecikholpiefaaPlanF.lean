/-
  What a draft is filled with: plain laws: steps and blocks, one change after the other; pairs by parts.
-/
import Derived.Test.YtnecikholpiefaaPlanP
namespace Go.Proofs.Ytnecikholpiefaa.Dp
open Go.RowKit RefP
set_option linter.unusedVariables false
set_option linter.unusedSimpArgs false
def fNodeZ : NodeV := ⟨0, ⟨#[]⟩, ⟨#[]⟩, false, 0, [], [], []⟩
def fPlanZ : PlanV := ⟨0, ⟨0, ⟨#[]⟩, 0, []⟩, [], []⟩
def fStepZ : StepV := ⟨0, 0, 0, 0, false⟩
/-- the steps and the blocks so far -/
structure FSx where
  st : List StepV
  out : List BlockV
def fOld (s : FSx) (c : ChangeV) : Int := if 0 ≤ c.from_ then (s.st.getD c.from_.toNat fStepZ).new else c.word
def fNew (ws : List Int) (s : FSx) (c : ChangeV) : Int := if c.empty = true then 0 else ws.getD s.out.length 0
def fsStep (ws : List Int) (s : FSx) (c : ChangeV) : FSx :=
  ⟨s.st ++ [⟨c.cell, c.ver, fOld s c, fNew ws s c, c.lin⟩], if c.empty = true then s.out else s.out ++ [⟨1, c.node, fPlanZ, []⟩]⟩
def fsAll (ws : List Int) (l : List ChangeV) : FSx := l.foldl (fsStep ws) ⟨[], []⟩
theorem fsAll_nil (ws : List Int) : fsAll ws [] = ⟨[], []⟩ := rfl
theorem fsAll_snoc (ws : List Int) (l : List ChangeV) (c : ChangeV) : fsAll ws (l ++ [c]) = fsStep ws (fsAll ws l) c := by simp [fsAll, List.foldl_append]
theorem fsAll_take (ws : List Int) (l : List ChangeV) (k : Nat) (hk : k < l.length) : fsAll ws (l.take (k + 1)) = fsStep ws (fsAll ws (l.take k)) l[k] := by
  rw [List.take_succ_eq_append_getElem hk, fsAll_snoc]
theorem fsAll_len (ws : List Int) (l : List ChangeV) : ∀ k, k ≤ l.length → (fsAll ws (l.take k)).st.length = k ∧ (fsAll ws (l.take k)).out.length = fullN (l.take k) := by
  intro k
  induction k with
  | zero => intro _; simp [fsAll, fullN]
  | succ k ih =>
    intro hk
    obtain ⟨h1, h2⟩ := ih (by omega)
    rw [fsAll_take ws l k (by omega), List.take_succ_eq_append_getElem (by omega), fullN_snoc]
    unfold fsStep
    constructor
    · simp [h1]
    · by_cases he : l[k].empty = true
      · simp [he, h2]
      · simp [he, h2]
theorem fullN_mono (l : List ChangeV) (k : Nat) : fullN (l.take k) ≤ fullN l := by
  unfold fullN
  exact (List.Sublist.filter _ (List.take_sublist k l)).length_le
theorem fullN_lt (l : List ChangeV) (k : Nat) (hk : k < l.length) (he : l[k].empty = false) : fullN (l.take k) < fullN l := by
  have h := fullN_mono l (k + 1)
  rw [List.take_succ_eq_append_getElem hk, fullN_snoc] at h
  simp [he] at h
  omega
/-! pairs by parts -/
def chunkV (fan : Nat) (l : List PairV) (j : Nat) : List PairV := (l.drop (j * fan)).take fan
def chunksV (fan : Nat) (l : List PairV) : List (List PairV) := (List.range (chunkN fan l.length)).map (chunkV fan l)
theorem chunkN_lt {fan n j : Nat} (hf : 1 ≤ fan) : j < chunkN fan n ↔ j * fan < n := by
  unfold chunkN
  rw [Nat.lt_div_iff_mul_lt (by omega)]
  omega
theorem chunksV_length (fan : Nat) (l : List PairV) : (chunksV fan l).length = chunkN fan l.length := by simp [chunksV]
theorem chunks_join (fan : Nat) (hf : 1 ≤ fan) (l : List PairV) : ∀ j, j ≤ chunkN fan l.length → ((List.range j).map (chunkV fan l)).flatten = l.take (j * fan) := by
  intro j
  induction j with
  | zero => intro _; simp
  | succ j ih =>
    intro hj
    rw [List.range_succ, List.map_append, List.flatten_append, ih (by omega)]
    simp only [List.map_cons, List.map_nil, List.flatten_cons, List.flatten_nil, List.append_nil]
    unfold chunkV
    rw [Nat.add_mul, Nat.one_mul, List.take_add]
theorem chunks_all (fan : Nat) (hf : 1 ≤ fan) (l : List PairV) : (chunksV fan l).flatten = l := by
  unfold chunksV
  rw [chunks_join fan hf l _ (Nat.le_refl _)]
  apply List.take_of_length_le
  have h : ¬ chunkN fan l.length < chunkN fan l.length := Nat.lt_irrefl _
  rw [chunkN_lt hf] at h
  omega
/-! the whole -/
def fPairs (l : List PairV) : BlockV := ⟨3, fNodeZ, fPlanZ, l⟩
def fExtra (x : AskV) : List Int := (x.words.drop (fullN x.c)).take (chunkN x.fan.toNat x.a.pairs.length)
def fPlan (x : AskV) : PlanV := ⟨x.thread, ⟨x.a.code, x.a.key, x.a.val, []⟩, (fsAll x.words x.c).st, fExtra x⟩
def fillV (x : AskV) : List BlockV := (fsAll x.words x.c).out ++ ((chunksV x.fan.toNat x.a.pairs).map fPairs ++ [⟨2, fNodeZ, fPlan x, []⟩])
theorem fillV_length (x : AskV) : (fillV x).length = costK x x.fan.toNat := by
  have h := (fsAll_len x.words x.c x.c.length (Nat.le_refl _)).2
  rw [List.take_length] at h
  simp [fillV, chunksV_length, h, costK]; omega
end Go.Proofs.Ytnecikholpiefaa.Dp
