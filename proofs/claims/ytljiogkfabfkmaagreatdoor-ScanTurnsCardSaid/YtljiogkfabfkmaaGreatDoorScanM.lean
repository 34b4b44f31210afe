/- Plain models of the scanner's small functions. -/
import Derived.Test.YtljiogkfabfkmaaGreatDoorBase
open Go Go.RowKit
namespace Pal

/-- the byte at a place; 0 behind the end -/
def bt (s : ByteArray) (i : Nat) : Int := if h : i < s.size then (s[i].toNat : Int) else 0
def letterB (c : Int) : Bool := decide (97 ≤ c ∧ c ≤ 122 ∨ 65 ≤ c ∧ c ≤ 90 ∨ c = 95)
def digitB (c : Int) : Bool := decide (48 ≤ c ∧ c ≤ 57)
def innerB (c : Int) : Bool := letterB c || digitB c
def binaryB (c : Int) : Bool := decide (c = 43 ∨ c = 45 ∨ c = 42 ∨ c = 47 ∨ c = 92 ∨ c = 126 ∨ c = 60 ∨ c = 62 ∨ c = 61 ∨ c = 64 ∨ c = 37 ∨ c = 38 ∨ c = 63 ∨ c = 44 ∨ c = 33)
def capitalB (c : Int) : Bool := digitB c || decide (65 ≤ c ∧ c ≤ 90)

theorem bt_of {s : ByteArray} {i : Nat} (h : i < s.size) : bt s i = (s[i].toNat : Int) := by simp [bt, h]
theorem bt_ge {s : ByteArray} {i : Nat} (h : ¬ i < s.size) : bt s i = 0 := by simp [bt, h]
theorem bt_range (s : ByteArray) (i : Nat) : 0 ≤ bt s i ∧ bt s i ≤ 255 := by
  unfold bt; split
  · rename_i h; have := s[i].toNat_lt; omega
  · omega

/-- the place behind the bytes that go on -/
def runE (p : Int → Bool) (s : ByteArray) (i : Nat) : Nat :=
  if i < s.size then (if p (bt s i) then runE p s (i + 1) else i) else i
termination_by s.size - i

theorem runE_ge (p : Int → Bool) (s : ByteArray) (i : Nat) : i ≤ runE p s i := by
  fun_induction runE p s i <;> omega
theorem runE_le (p : Int → Bool) (s : ByteArray) (i : Nat) (h : i ≤ s.size) : runE p s i ≤ s.size := by
  fun_induction runE p s i <;> omega
theorem runE_step {p : Int → Bool} {s : ByteArray} {i : Nat} (h : i < s.size) (hp : p (bt s i) = true) : runE p s i = runE p s (i + 1) := by
  rw [runE, if_pos h, if_pos hp]
theorem runE_stop {p : Int → Bool} {s : ByteArray} {i : Nat} (h : i < s.size) (hp : p (bt s i) = false) : runE p s i = i := by
  rw [runE, if_pos h, if_neg (by simp [hp])]
theorem runE_end {p : Int → Bool} {s : ByteArray} {i : Nat} (h : ¬ i < s.size) : runE p s i = i := by
  rw [runE, if_neg h]

def blankB (c : Int) : Bool := decide (c = 32 ∨ c = 9 ∨ c = 10 ∨ c = 12 ∨ c = 13)
/-- not a remark's mark -/
def restB (c : Int) : Bool := decide (c ≠ 34)

/-- the place behind blanks and remarks; false: a remark is not shut, at that place -/
def overE (s : ByteArray) (i : Nat) : Nat × Bool :=
  if i < s.size then
    if blankB (bt s i) then overE s (i + 1)
    else if bt s i ≠ 34 then (i, true)
    else if runE restB s (i + 1) < s.size then overE s (runE restB s (i + 1) + 1) else (i, false)
  else (i, true)
termination_by s.size - i
decreasing_by
  · omega
  · have := runE_ge restB s (i + 1); omega

def colonB (s : ByteArray) (i : Nat) : Bool := bt s i == 58 && bt s (i + 1) != 61

/-- the place behind a binary selector that begins at a place, gone through from another -/
def signE (s : ByteArray) (first i : Nat) : Nat :=
  if i < s.size then (if binaryB (bt s i) && !(decide (first < i) && bt s i == 45 && digitB (bt s (i + 1))) then signE s first (i + 1) else i) else i
termination_by s.size - i
def signEnd (s : ByteArray) (i : Nat) : Nat := if bt s i = 124 then i + 1 else signE s i i

theorem signE_ge (s : ByteArray) (f i : Nat) : i ≤ signE s f i := by
  fun_induction signE s f i <;> omega
theorem signE_le (s : ByteArray) (f i : Nat) (h : i ≤ s.size) : signE s f i ≤ s.size := by
  fun_induction signE s f i <;> omega
theorem signEnd_le (s : ByteArray) (i : Nat) (h : i < s.size) : signEnd s i ≤ s.size := by
  unfold signEnd; split
  · omega
  · exact signE_le s i i (by omega)

def nameB (s : ByteArray) : Bool := decide (0 < s.size) && decide (s.size ≤ 40) && letterB (bt s 0) && (runE innerB s 0 == s.size)

/-- how many keywords, one behind the other, from a place on; -1: they are none -/
def keywordsE (s : ByteArray) (i n : Nat) : Int :=
  if i < s.size then
    if nameB (s.extract i (runE innerB s i)) && bt s (runE innerB s i) == 58 then keywordsE s (runE innerB s i + 1) (n + 1) else -1
  else n
termination_by s.size - i
decreasing_by have := runE_ge innerB s i; omega

def arityE (s : ByteArray) : Int :=
  if s.size = 0 then -1 else if nameB s then 0 else
  if binaryB (bt s 0) || bt s 0 == 124 then (if signEnd s 0 = s.size then 1 else -1) else keywordsE s 0 0

/-- digits without noughts ahead; of nothing but noughts 0 -/
def plainI (s : ByteArray) (i : Nat) : Nat := if i + 1 < s.size then (if bt s i = 48 then plainI s (i + 1) else i) else i
termination_by s.size - i
def plainS (s : ByteArray) : ByteArray := s.extract (plainI s 0) s.size

/-- a token; its literal has no items -/
structure Tok where
  kind : Int
  text : ByteArray
  pos : Nat
  lk : Int
  ln : Int
  lb : Int
  lt : ByteArray

def Tok.cells (t : Tok) : List Value := [.int .u8 t.kind, .string t.text, .int .i64 t.pos, .int .u8 t.lk, .int .i64 t.ln, .int .u64 t.lb, .string t.lt, .slice none 0 0]
def noText : ByteArray := ⟨#[]⟩
def zeroTok : Tok := ⟨0, noText, 0, 0, 0, 0, noText⟩
/-- a token without a literal -/
def bareTok (k : Int) (t : ByteArray) (i : Nat) : Tok := ⟨k, t, i, 0, 0, 0, noText⟩
/-- a token and OK; or an error -/
def tokV (r : Tok × Int) : Value := .tuple #[.agg r.1.cells.toArray, .int .i64 r.2]

def namedM (s : ByteArray) (i : Nat) : Tok × Int :=
  if 40 < runE innerB s i - i then (zeroTok, 143)
  else if colonB s (runE innerB s i) then (bareTok 2 (s.extract i (runE innerB s i + 1)) i, 0)
  else (bareTok 1 (s.extract i (runE innerB s i)) i, 0)

/-- a string's content, gone through from a place on; and the place behind it; 0: it is not shut -/
def quotedA (s : ByteArray) (k : Nat) (acc : ByteArray) : ByteArray × Nat :=
  if k < s.size then
    if bt s k ≠ 39 then quotedA s (k + 1) (acc ++ s.extract k (k + 1))
    else if bt s (k + 1) ≠ 39 then (acc, k + 1)
    else quotedA s (k + 2) (acc ++ ⟨#[39]⟩)
  else (noText, 0)
termination_by s.size - k
def quotedM (s : ByteArray) (i : Nat) : ByteArray × Nat := quotedA s (i + 1) noText

theorem quotedA_le (s : ByteArray) (k : Nat) (acc : ByteArray) : (quotedA s k acc).2 = 0 ∨ (k < (quotedA s k acc).2 ∧ (quotedA s k acc).2 ≤ s.size) := by
  fun_induction quotedA s k acc <;> simp_all <;> omega
theorem quotedM_le (s : ByteArray) (i : Nat) : (quotedM s i).2 = 0 ∨ (i + 1 < (quotedM s i).2 ∧ (quotedM s i).2 ≤ s.size) := quotedA_le s (i + 1) noText
theorem signEnd_gt (s : ByteArray) (i : Nat) (h : i < s.size) (hb : binaryB (bt s i) = true ∨ bt s i = 124) : i < signEnd s i := by
  unfold signEnd
  split
  · omega
  · rename_i h1
    have hb' : binaryB (bt s i) = true := by simpa [h1] using hb
    rw [signE, if_pos h, if_pos (by simp [hb'])]
    have := signE_ge s i (i + 1); omega

/-- the place behind keywords, one behind the other; 143: one is too long -/
def keysE (s : ByteArray) (i : Nat) : Nat × Int :=
  if i < s.size then
    if letterB (bt s i) && colonB s (runE innerB s i) then
      if 40 < runE innerB s i - i then (0, 143) else keysE s (runE innerB s i + 1)
    else (i, 0)
  else (i, 0)
termination_by s.size - i
decreasing_by have := runE_ge innerB s i; omega

/-- what stands behind a #: its text, the place behind -/
def symbolM (s : ByteArray) (i : Nat) : ByteArray × Nat × Int :=
  if bt s i = 39 then (if (quotedM s i).2 = 0 then (noText, 0, 142) else ((quotedM s i).1, (quotedM s i).2, 0))
  else if i < s.size ∧ (binaryB (bt s i) = true ∨ bt s i = 124) then (s.extract i (signEnd s i), signEnd s i, 0)
  else if 40 < runE innerB s i - i then (noText, 0, 143)
  else if colonB s (runE innerB s i) = false then (s.extract i (runE innerB s i), runE innerB s i, 0)
  else if (keysE s (runE innerB s i + 1)).2 = 0 then (s.extract i (keysE s (runE innerB s i + 1)).1, (keysE s (runE innerB s i + 1)).1, 0)
  else (noText, 0, 143)

theorem keysE_ge (s : ByteArray) (i : Nat) : (keysE s i).2 = 0 → i ≤ (keysE s i).1 := by
  fun_induction keysE s i
  · simp
  · rename_i i _ _ _ ih
    intro h
    have := runE_ge innerB s i
    have := ih h
    omega
  · simp
  · simp
theorem colonB_lt {s : ByteArray} {i : Nat} (h : colonB s i = true) : i < s.size := by
  by_cases h5 : i < s.size
  · exact h5
  · rw [colonB, bt_ge h5] at h; simp at h
theorem keysE_le (s : ByteArray) (i : Nat) (h : i ≤ s.size) : (keysE s i).1 ≤ s.size := by
  fun_induction keysE s i
  · omega
  · rename_i i h1 h2 h3 ih
    apply ih
    have := runE_le innerB s i (by omega)
    have h4 : colonB s (runE innerB s i) = true := by simp at h2; exact h2.2
    have := colonB_lt h4
    omega
  · exact h
  · exact h

theorem symbolM_le (s : ByteArray) (i : Nat) (h : i ≤ s.size) : (symbolM s i).2.2 = 0 → i ≤ (symbolM s i).2.1 ∧ (symbolM s i).2.1 ≤ s.size := by
  unfold symbolM
  have h1 := quotedM_le s i
  have h2 := runE_ge innerB s i
  have h3 := runE_le innerB s i h
  split
  · split <;> simp_all; omega
  · split
    · rename_i h4
      have := signEnd_le s i h4.1
      have := signEnd_gt s i h4.1 h4.2
      simp; omega
    · split
      · simp
      · split
        · simp; omega
        · rename_i h4
          have h5 := colonB_lt (by simpa using h4)
          split
          · rename_i h6
            have := keysE_ge s _ h6
            have := keysE_le s (runE innerB s i + 1) (by omega)
            simp; omega
          · simp

def hashM (s : ByteArray) (i : Nat) : Tok × Int :=
  if bt s (i + 1) = 40 ∨ bt s (i + 1) = 91 then (bareTok 8 (s.extract i (i + 2)) i, 0)
  else if i + 1 < s.size ∧ (letterB (bt s (i + 1)) = true ∨ binaryB (bt s (i + 1)) = true ∨ bt s (i + 1) = 124 ∨ bt s (i + 1) = 39) then
    if (symbolM s (i + 1)).2.2 = 0 then (⟨6, s.extract i (symbolM s (i + 1)).2.1, i, 9, 0, 0, (symbolM s (i + 1)).1⟩, 0) else (zeroTok, (symbolM s (i + 1)).2.2)
  else (zeroTok, 141)

def markB (c : Int) : Bool := decide (c = 40 ∨ c = 41 ∨ c = 91 ∨ c = 93 ∨ c = 123 ∨ c = 125 ∨ c = 94 ∨ c = 46 ∨ c = 59 ∨ c = 58)
def markM (s : ByteArray) (i : Nat) : Tok × Int :=
  if markB (bt s i) then (if bt s i = 58 ∧ bt s (i + 1) = 61 then (bareTok 8 (s.extract i (i + 2)) i, 0) else (bareTok 8 (s.extract i (i + 1)) i, 0))
  else (zeroTok, 141)

section
variable (num : ByteArray → Nat → Tok × Int)

/-- the token at a place where no blank is -/
def oneM (s : ByteArray) (i : Nat) : Tok × Int :=
  if letterB (bt s i) then namedM s i
  else if digitB (bt s i) then num s i
  else if binaryB (bt s i) || bt s i == 124 then (bareTok 3 (s.extract i (signEnd s i)) i, 0)
  else if bt s i = 39 then (if (quotedM s i).2 = 0 then (zeroTok, 142) else (⟨5, s.extract i (quotedM s i).2, i, 8, 0, 0, (quotedM s i).1⟩, 0))
  else if bt s i = 36 then (if i + 1 < s.size then (⟨7, s.extract i (i + 2), i, 7, bt s (i + 1), 0, noText⟩, 0) else (zeroTok, 142))
  else if bt s i = 35 then hashM s i
  else markM s i

/-- the first token from a place on; what is wrong, and where -/
def firstM (s : ByteArray) (i : Nat) : Tok × Int × Nat :=
  if (overE s i).2 = false then (zeroTok, 142, (overE s i).1)
  else if (overE s i).1 = s.size then (bareTok 0 noText (overE s i).1, 0, 0)
  else if (oneM num s (overE s i).1).2 = 0 then ((oneM num s (overE s i).1).1, 0, 0)
  else (zeroTok, (oneM num s (overE s i).1).2, (overE s i).1)
end

end Pal
