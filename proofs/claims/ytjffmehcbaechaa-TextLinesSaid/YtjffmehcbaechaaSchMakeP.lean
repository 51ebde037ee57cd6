/-
  'Make': a shape, of raw numbers.
-/
import Derived.Test.YtjffmehcbaechaaSchPar
import Derived.Test.YtjffmehcbaechaaWithin
set_option linter.unusedVariables false
set_option linter.unusedSimpArgs false
namespace Go.Proofs.Ytjffmehcbaechaa
open Go Go.Av
set_option maxRecDepth 100000
set_option maxHeartbeats 4000000

/-! ### Plain -/
def popM (fs : List Fd) : Nat → List Int → List Int
  | k + 1, a :: b :: t => if 0 < (fs.getD a.toNat default).kids then popM fs k (b :: t) else a :: b :: t
  | _, op => op
def incK (fs : List Fd) (a : Nat) : List Fd := fs.set a { fs.getD a default with kids := (fs.getD a default).kids + 1 }
def kindM (op : List Int) (x : Int) : Int := if 4 < op.length ∧ (wi x 8).tmod 5 = 0 then 2 else (wi x 8).tmod 5
def nmM (i : Nat) : List UInt8 := [UInt8.ofNat (97 + i)]
def fldM (op : List Int) (i : Nat) (x : Int) : Fd := ⟨nmM i, wi (wr .i64 (x.tdiv 8)) 3, kindM op x, 0⟩
def topM (op : List Int) : Int := op.headD 0
/-- One field more. -/
def stepM (fs : List Fd) (op : List Int) (i : Nat) (x : Int) : List Fd × List Int :=
  let o := popM fs (wi (wr .i64 (x.tdiv 64)) 3).toNat op
  let f := fldM o i x
  (incK fs (topM o).toNat ++ [f], if f.kind = 0 then (fs.length : Int) :: o else o)
def runM (ns : List Int) : Nat → Nat → List Fd → List Int → List Fd × List Int
  | 0, _, fs, op => (fs, op)
  | n + 1, i, fs, op => if i < ns.length ∧ i < 12 then let r := stepM fs op i (ns.getD i 0); runM ns n (i + 1) r.1 r.2 else (fs, op)
def endM (fs : List Fd) (op : List Int) : List Fd :=
  if (fs.getD (topM op).toNat default).kids = 0 then incK fs (topM op).toNat ++ [⟨[122], 0, 4, 0⟩] else fs
def makeF (ns : List Int) : List Fd := let r := runM ns 12 0 [⟨[109], 0, 0, 0⟩] [0]; endM r.1 r.2

abbrev fs0 : List Fd := [⟨[109], 0, 0, 0⟩]
theorem nm_eq : ∀ i, i < 12 → bytesOf [[.int .u8 (wr .u8 (97 + (i : Nat)))]] = nmM i := by decide
theorem incK_length (fs : List Fd) (a : Nat) : (incK fs a).length = fs.length := by simp [incK]
theorem incK_map {fs : List Fd} {a : Nat} (h : a < fs.length) : (fs.map encF).set a [.str (fs.getD a default).name, .int .i64 (fs.getD a default).rep, .int .i64 (fs.getD a default).kind, .int .i64 ((fs.getD a default).kids + 1)] = (incK fs a).map encF := by simp [incK, encF, List.map_set]
theorem incK_kids {fs : List Fd} {a : Nat} {i : Nat} (h : ∀ f ∈ fs, 0 ≤ f.kids ∧ f.kids ≤ i) (ha : a < fs.length) : ∀ f ∈ incK fs a, 0 ≤ f.kids ∧ f.kids ≤ (i + 1 : Nat) := by
  intro f hf
  rcases List.mem_or_eq_of_mem_set hf with hf | rfl
  · have := h f hf; omega
  · have := h (fs.getD a default) (by simp [List.getD_eq_getElem?_getD, ha])
    simp only; omega
theorem inv_step {ns : List Int} {i : Nat} {fs : List Fd} {op : List Int} {k0 : Nat} {a : Int} {t : List Int} (hrun : runM ns (12 - i) i fs op = runM ns 12 0 fs0 [0]) (hlen : fs.length = i + 1)
    (hkid : ∀ f ∈ fs, 0 ≤ f.kids ∧ f.kids ≤ i) (hin : (i : Int) < ns.length) (h12 : (i : Int) < 12) (hk0 : wi (wr .i64 ((ns.getD i 0).tdiv 64)) 3 = (k0 : Int)) (hp : popM fs k0 op = a :: t)
    (hop1 : ∀ p ∈ a :: t, 0 ≤ p ∧ p < fs.length) (hol2 : t.length + 1 ≤ i + 1) (kd : Int) (hkd : kindM (a :: t) (ns.getD i 0) = kd) (op' : List Int) (hop' : op' = if kd = 0 then (fs.length : Int) :: a :: t else a :: t)
    (fs' : List Fd) (hfs' : fs' = incK fs a.toNat ++ [⟨nmM i, wi (wr .i64 ((ns.getD i 0).tdiv 8)) 3, kd, 0⟩]) :
    runM ns (12 - (i + 1)) (i + 1) fs' op' = runM ns 12 0 fs0 [0] ∧ fs'.length = i + 1 + 1 ∧ op' ≠ [] ∧ (∀ p ∈ op', 0 ≤ p ∧ p < fs'.length) ∧ (∀ f ∈ fs', 0 ≤ f.kids ∧ f.kids ≤ (i + 1 : Nat)) ∧ op'.length ≤ i + 1 + 1 := by
  have ha := hop1 a (List.mem_cons_self ..)
  have hl' : fs'.length = i + 1 + 1 := by rw [hfs']; simp [incK_length, hlen]
  refine ⟨?_, hl', ?_, ?_, ?_, ?_⟩
  · rw [← hrun, show 12 - i = 12 - (i + 1) + 1 by omega, runM, if_pos (by omega)]
    simp only [stepM, hk0, Int.toNat_natCast, hp, topM, List.headD_cons, fldM, hkd, ← hfs', ← hop']
  · rw [hop']; split <;> simp
  · intro p hp'
    rw [hl']
    have : p = (fs.length : Int) ∨ p ∈ a :: t := by
      rw [hop'] at hp'
      split at hp'
      · exact List.mem_cons.1 hp'
      · exact .inr hp'
    rcases this with rfl | h
    · omega
    · have := hop1 p h; omega
  · intro f hf
    rw [hfs'] at hf
    rcases List.mem_append.1 hf with hf | hf
    · exact incK_kids hkid (by omega) f hf
    · simp only [List.mem_singleton] at hf; subst hf; simp only; omega
  · rw [hop']; split <;> simp only [List.length_cons] <;> omega
theorem runM_stop {ns : List Int} {n i : Nat} {fs : List Fd} {op : List Int} (h : ¬ (i < ns.length ∧ i < 12)) : runM ns n i fs op = (fs, op) := by
  cases n with
  | zero => rfl
  | succ n => simp only [runM, h, if_false]
end Go.Proofs.Ytjffmehcbaechaa
