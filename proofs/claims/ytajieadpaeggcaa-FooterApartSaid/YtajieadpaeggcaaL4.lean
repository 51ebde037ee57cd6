/-
  Bytes that are read one behind the other; a schema's bytes. Plain. The reader of a schema's bytes: what is wrong, and so many bytes. The program's. The reader of a schema's bytes: a number. The program's. The cursor: so many bytes, a number of so many bytes. The program's. The cursor: a number of so many bytes. The program's. The reader of a schema's bytes: one byte. The program's. The reader of a schema's bytes: a field. The program's. The footer's reader: what is wrong, so many bytes, a number. The program's. A schema's bytes, read: the loop's parts. The program's.
-/
import Derived.Test.YtajieadpaeggcaaL1
import Derived.Test.YtajieadpaeggcaaL3
set_option linter.unusedVariables false
set_option linter.unusedSimpArgs false
section
set_option linter.unusedVariables false
set_option linter.unusedSimpArgs false
namespace Go.Proofs.Ytajieadpaeggcaa
open Go Go.Av
/-- A reader: what is left, and the first thing that was wrong. -/
structure BR where
 b : List UInt8
 e : Int
def failR (r : BR) (x : Int) : BR := if r.e = 0 then ⟨r.b, x⟩ else r
def takeR (n : Nat) (r : BR) : List UInt8 × BR :=
 if (if r.b.length < n then failR r 8 else r).e ≠ 0 then ([], if r.b.length < n then failR r 8 else r) else (r.b.take n, ⟨r.b.drop n, r.e⟩)
def fixR (n : Nat) (r : BR) : Nat × BR := (leV (takeR n r).1, (takeR n r).2)
def numR1 (most : Nat) (wrong : Int) (r : BR) : BR := if (getV r.b 0 0).2.2 = 0 ∧ most < (getV r.b 0 0).1 then failR (failR r (getV r.b 0 0).2.2) wrong else failR r (getV r.b 0 0).2.2
def numR (most : Nat) (wrong : Int) (r : BR) : Nat × BR :=
 if r.e ≠ 0 then (0, r) else
 if (takeR (getV r.b 0 0).2.1 (numR1 most wrong r)).2.e ≠ 0 then (0, (takeR (getV r.b 0 0).2.1 (numR1 most wrong r)).2) else ((getV r.b 0 0).1, (takeR (getV r.b 0 0).2.1 (numR1 most wrong r)).2)
theorem takeR_app (x r : List UInt8) : takeR x.length ⟨x ++ r, 0⟩ = (x, ⟨r, 0⟩) := by
 have h : ¬ (x ++ r).length < x.length := by simp
 unfold takeR
 simp only [if_neg h, ne_eq, not_true_eq_false, if_false]
 rw [List.take_left', List.drop_left'] <;> rfl
theorem fixR_app (n v : Nat) (r : List UInt8) (h : v < 256 ^ n) : fixR n ⟨leB n v ++ r, 0⟩ = (v, ⟨r, 0⟩) := by
 have := takeR_app (leB n v) r
 rw [leB_len] at this
 unfold fixR
 rw [this, leV_leB n v h]
theorem numR_app {n most : Nat} (wrong : Int) (r : List UInt8) (h : n ≤ most) (hm : most < 128 ^ 8) : numR most wrong ⟨varB n ++ r, 0⟩ = (n, ⟨r, 0⟩) := by
 have hg := getV_varB (n := n) r (by omega)
 unfold numR numR1
 simp only [hg, ne_eq, not_true_eq_false, if_false, true_and, if_neg (Nat.not_lt.2 h)]
 have : failR ⟨varB n ++ r, 0⟩ 0 = ⟨varB n ++ r, 0⟩ := rfl
 rw [this, takeR_app]
 simp
/-! A schema's bytes -/
def sbF1 (f : Fd) : List UInt8 := leB 1 f.rep.toNat ++ (leB 1 f.kind.toNat ++ (varB f.kids.toNat ++ (varB f.name.length ++ f.name)))
def sbL : List Fd → List UInt8
 | [] => []
 | f :: l => sbF1 f ++ sbL l
def sbF (s : List Fd) : List UInt8 := varB s.length ++ sbL s
def fieldR (r : BR) : Fd × BR :=
 let a := fixR 1 r
 let b := fixR 1 a.2
 let c := numR 40 14 b.2
 let d := numR 12 5 c.2
 let t := takeR d.1 d.2
 (⟨t.1, a.1, b.1, c.1⟩, t.2)
def fieldsR : Nat → BR → List Fd → List Fd × BR
 | 0, r, s => (s, r)
 | k + 1, r, s => if r.e ≠ 0 then (s, r) else fieldsR k (fieldR r).2 (s ++ [(fieldR r).1])
def endR (p : List Fd × BR) : BR := if p.2.b ≠ [] then failR p.2 9 else p.2
def parseSF (b : List UInt8) : List Fd × Int :=
 let n := numR 40 4 ⟨b, 0⟩
 let p := fieldsR n.1 n.2 []
 let r := if (endR p).e = 0 then failR (endR p) (checkF p.1) else endR p
 if r.e ≠ 0 then ([], r.e) else (p.1, 0)
structure SbOk (f : Fd) : Prop where
 rep : 0 ≤ f.rep ∧ f.rep ≤ 255
 kind : 0 ≤ f.kind ∧ f.kind ≤ 255
 kids : 0 ≤ f.kids ∧ f.kids ≤ 40
 name : f.name.length ≤ 12
theorem fieldR_app {f : Fd} (h : SbOk f) (r : List UInt8) : fieldR ⟨sbF1 f ++ r, 0⟩ = (f, ⟨r, 0⟩) := by
 obtain ⟨nm, rp, kd, ks⟩ := f
 obtain ⟨h1, h2, h3, h4⟩ := h
 simp only at h1 h2 h3 h4
 unfold fieldR sbF1
 simp only [List.append_assoc]
 rw [fixR_app 1 _ _ (by omega)]
 simp only
 rw [fixR_app 1 _ _ (by omega)]
 simp only
 rw [numR_app (n := ks.toNat) (most := 40) 14 _ (by omega) (by decide)]
 simp only
 rw [numR_app (n := nm.length) (most := 12) 5 _ h4 (by decide)]
 simp only
 rw [takeR_app]
 simp only [Int.toNat_of_nonneg h1.1, Int.toNat_of_nonneg h2.1, Int.toNat_of_nonneg h3.1]
theorem fieldsR_app : ∀ (l : List Fd) (s : List Fd) (r : List UInt8), (∀ f ∈ l, SbOk f) → fieldsR l.length ⟨sbL l ++ r, 0⟩ s = (s ++ l, ⟨r, 0⟩)
 | [], s, r, _ => by rw [List.append_nil]; rfl
 | f :: l, s, r, h => by
   have hf := fieldR_app (h f (List.mem_cons_self ..)) (sbL l ++ r)
   rw [List.length_cons, fieldsR, sbL, List.append_assoc, hf, if_neg (by simp), fieldsR_app l _ r fun g hg => h g (List.mem_cons_of_mem _ hg)]
   simp
/-- A schema that is written is read. -/
theorem parseSF_sbF {s : List Fd} (h : ∀ f ∈ s, SbOk f) (hl : s.length ≤ 40) (hc : checkF s = 0) : parseSF (sbF s) = (s, 0) := by
 have h1 := numR_app (n := s.length) (most := 40) 4 (sbL s) hl (by decide)
 have h2 := fieldsR_app s [] [] h
 rw [List.append_nil, List.nil_append] at h2
 unfold parseSF sbF
 simp only [h1, h2]
 have h3 : endR (s, ⟨[], 0⟩) = ⟨[], 0⟩ := rfl
 simp only [h3, hc, if_true]
 rfl
end Go.Proofs.Ytajieadpaeggcaa

end
section
set_option linter.unusedVariables false
set_option linter.unusedSimpArgs false
namespace Go.Proofs.Ytajieadpaeggcaa
open Go Go.Av
set_option maxRecDepth 100000
set_option maxHeartbeats 4000000
abbrev rdB (r : BR) : Option Blk := some (.cells [[vB r.b, .int .i64 r.e]] false)
theorem rfail_t [Syms] {Post : AVal → Heap → Nat → Prop} (r : BR) (x : Int) (hP : Post (.tup []) [(0, rdB (failR r x))] 1) :
 fnT noneT noneT (fnTab fns) (tyTab tys) (plTab plt) 100 82 [.ptr 0 0 0, .int .i64 x] [(0, rdB r)] 1 Post := by
 obtain ⟨b, e⟩ := r
 by_cases h0 : e = 0
 ·subst h0
  rw [failR, if_pos rfl] at hP
  repeat' (first | (refine And.intro ?_ ?_) | (intro h; try first | exact dz | replace h := cv))
  all_goals (try exact cz)
  exact ⟨⟨[], [(0, rdB ⟨b, x⟩)], 1⟩, reb_num [0] (by first | rfl | kernel_rfl) trivial ⟨⟨by decide, _, rfl, .refl _⟩, trivial⟩, _, rfl, hP⟩
 ·rw [failR, if_neg h0] at hP
  repeat' (first | (refine And.intro ?_ ?_) | (intro h; try first | exact dz | replace h := cv))
  all_goals (try exact cz)
  exact ⟨⟨[], [(0, rdB ⟨b, e⟩)], 1⟩, reb_num [0] (by first | rfl | kernel_rfl) trivial ⟨⟨by decide, _, rfl, .refl _⟩, trivial⟩, _, rfl, hP⟩
def S_rfail : SpecT := fun args H nx Post => ∃ (r : BR) (x : Int), args = [.ptr 0 0 0, .int .i64 x] ∧ H = [(0, rdB r)] ∧ nx = 1 ∧ Post (.tup []) [(0, rdB (failR r x))] 1
theorem rfail_ok [Syms] : S_rfail.ok Try.prog 82 := by
 rintro args H nx Post ⟨r, x, rfl, rfl, rfl, h⟩
 exact fnT_sound tys_ok fns_ok noneT_det noneT_ok mixed (rfail_t r x h)
abbrev cTk : CallT := pickT 82 (specT S_rfail) noneT
theorem cTk_ok [Syms] : cTk.ok Try.prog := pickT_spec rfail_ok noneT_ok
theorem ren_e (b : List UInt8) (e : Int) : asI (((List.map (AVal.renL (rho [0] 1)) [[vB b, AVal.int IntKind.i64 e]]).getD 0 []).getD 1 AVal.any) = e := rfl
theorem getD_drop (b : List UInt8) (n i : Nat) : (b.drop n).getD i 0 = b.getD (n + i) 0 := by
 rw [List.getD_eq_getElem?_getD, List.getD_eq_getElem?_getD, List.getElem?_drop]
theorem vB_drop (b : List UInt8) (n : Nat) : AVal.vt 1 (b.length - n) (fun i => encB (b.getD (n + i) 0)) = vB (b.drop n) := by
 show AVal.vt 1 (b.length - n) _ = AVal.vt 1 (b.drop n).length (fun i => encB ((b.drop n).getD i 0))
 rw [List.length_drop]
 congr 1
 funext i
 rw [getD_drop]
theorem tab_take {b : List UInt8} {n : Nat} (h : n ≤ b.length) : tabR n (fun i => encB (b.getD (0 + i) 0)) = tabR (b.take n).length (fun i => encB ((b.take n).getD i 0)) := by
 rw [tabR_map encB 0 (b.take n)]
 apply List.ext_getElem?
 intro i
 unfold tabR
 by_cases hi : i < n
 ·have : i < b.length := by omega
  simp [hi, this, List.getElem?_take]
 ·simp [hi, List.getElem?_take]
theorem relV_tabs [Syms] {ι : Inj} {sz n m : Nat} {f g : Nat → List AVal} {v : Value} (h : tabR n f = tabR m g) (hv : RelV ι (.vt sz n f) v) : RelV ι (.vt sz m g) v := by
 cases hv with
 | vt _ _ _ _ hv => exact .vt _ _ _ _ (h ▸ hv)
theorem reb_take [Syms] {N : Nat} {b : List UInt8} {n k nx : Nat} {e : Env} {H : Heap} (h : n ≤ b.length) (hn : NumsOk 1 nx [0] = true) (hk : e.get k = .vt 1 n (fun i => encB (b.getD (0 + i) 0)))
 (hb : H.get 0 = some (.cells [[.vt 1 (b.length - n) (fun i => encB (b.getD (n + i) 0)), .int .i64 0]] false)) : Reb 1 N ⟨e, H, nx⟩ ⟨[(k, vB (b.take n))], [(0, rdB ⟨b.drop n, 0⟩)], 1⟩ := by
 rw [vB_drop] at hb
 refine (reb_slot (k := k) (y := vB (b.take n)) fun ι v hv => ?_).trans (reb_num [0] hn ⟨?_, trivial⟩ ⟨⟨Nat.zero_lt_one, _, hb, .refl _⟩, trivial⟩)
 ·rw [hk] at hv; exact relV_tabs (tab_take h) hv
 ·rw [Env.get_cons, Nat.beq_refl]; exact .refl _
theorem reb_none [Syms] {N : Nat} {r : BR} {k nx : Nat} {e : Env} {H : Heap} (hn : NumsOk 1 nx [0] = true) (hk : e.get k = .nils) (hb : H.get 0 = rdB r) : Reb 1 N ⟨e, H, nx⟩ ⟨[(k, vB [])], [(0, rdB r)], 1⟩ := by
 refine (reb_slot (k := k) (y := vB []) fun ι v hv => ?_).trans (reb_num [0] hn ⟨?_, trivial⟩ ⟨⟨Nat.zero_lt_one, _, hb, .refl _⟩, trivial⟩)
 ·rw [hk] at hv; exact .vt _ _ _ _ (RelV.isZ (sz := 1) rfl hv)
 ·rw [Env.get_cons, Nat.beq_refl]; exact .refl _
theorem rtake_t [Syms] {Post : AVal → Heap → Nat → Prop} (r : BR) (n : Nat) (hl : r.b.length ≤ 1000000) (hn : n ≤ 1000000000) (hP : Post (vB (takeR n r).1) [(0, rdB (takeR n r).2)] 1) :
 fnT noneT cTk (fnTab fns) (tyTab tys) (plTab plt) 100 98 [.ptr 0 0 0, .int .i64 n] [(0, rdB r)] 1 Post := by
 obtain ⟨b, e⟩ := r
 have hl : b.length ≤ 1000000 := hl
 unfold takeR at hP
 by_cases h1 : b.length < n
 ·simp only [if_pos h1] at hP
  by_cases h0 : e = 0
  ·subst h0
   have hP : Post (vB []) [(0, rdB ⟨b, 8⟩)] 1 := hP
   have hx1 : failR ⟨b, 0⟩ 8 = ⟨b, 8⟩ := rfl
   have hx2 : ¬ (8 : Int) = 0 := by decide
   have hx3 := ren_e b 8
   have hx4 := hx2
   repeat' (first | (refine And.intro ?_ ?_) | (intro h; try first | exact dz | replace h := cv))
   all_goals (try exact cz)
   refine ⟨[0], [.ptr 0 0 0, .int .i64 8], [(0, rdB ⟨b, 0⟩)], rfl, ⟨.refl _, .refl _, trivial⟩, ⟨⟨by decide, _, rfl, .refl _⟩, trivial⟩, ⟨b, 0⟩, 8, rfl, rfl, rfl, ?_⟩
   rw [hx1, show rdB ⟨b, 8⟩ = some (.cells [[vB b, .int .i64 8]] false) from rfl]
   repeat' (first | (refine And.intro ?_ ?_) | (intro h; try first | exact dzi | replace h := cvi))
   all_goals (try exact cz)
   exact ⟨_, reb_none (k := 4) (by first | rfl | kernel_rfl) rfl rfl, _, rfl, hP⟩
  ·have hf : failR ⟨b, e⟩ 8 = ⟨b, e⟩ := if_neg h0
   rw [hf, if_pos h0] at hP
   repeat' (first | (refine And.intro ?_ ?_) | (intro h; try first | exact dz | replace h := cv))
   all_goals (try exact cz)
   refine ⟨[0], [.ptr 0 0 0, .int .i64 8], [(0, rdB ⟨b, e⟩)], rfl, ⟨.refl _, .refl _, trivial⟩, ⟨⟨by decide, _, rfl, .refl _⟩, trivial⟩, ⟨b, e⟩, 8, rfl, rfl, rfl, ?_⟩
   rw [hf, show rdB ⟨b, e⟩ = some (.cells [[vB b, .int .i64 e]] false) from rfl]
   have hx1 := ren_e b e
   have hx2 := hx1
   have hx3 := hx1
   have hx4 := hx1
   repeat' (first | (refine And.intro ?_ ?_) | (intro h; try first | exact dzi | replace h := cvi))
   all_goals (try exact cz)
   exact ⟨_, reb_none (k := 4) (by first | rfl | kernel_rfl) rfl rfl, _, rfl, hP⟩
 ·simp only [if_neg h1] at hP
  by_cases h0 : e = 0
  ·subst h0
   have hP : Post (vB (b.take n)) [(0, rdB ⟨b.drop n, 0⟩)] 1 := hP
   repeat' (first | (refine And.intro ?_ ?_) | (intro h; try first | exact dz | replace h := cv))
   all_goals (try exact cz)
   exact ⟨_, reb_take (k := 4) (b := b) (n := n) (by omega) (by first | rfl | kernel_rfl) rfl rfl, _, rfl, hP⟩
  ·rw [if_pos h0] at hP
   repeat' (first | (refine And.intro ?_ ?_) | (intro h; try first | exact dz | replace h := cv))
   all_goals (try exact cz)
   exact ⟨_, reb_none (k := 4) (by first | rfl | kernel_rfl) rfl rfl, _, rfl, hP⟩
def S_rtake : SpecT := fun args H nx Post => ∃ (r : BR) (n : Nat), args = [.ptr 0 0 0, .int .i64 n] ∧ H = [(0, rdB r)] ∧ nx = 1 ∧ (r.b.length ≤ 1000000 ∧ n ≤ 1000000000) ∧ Post (vB (takeR n r).1) [(0, rdB (takeR n r).2)] 1
theorem rtake_ok [Syms] : S_rtake.ok Try.prog 98 := by
 rintro args H nx Post ⟨r, n, rfl, rfl, rfl, ⟨h1, h2⟩, h⟩
 exact fnT_sound tys_ok fns_ok noneT_det cTk_ok mixed (rtake_t r n h1 h2 h)
end Go.Proofs.Ytajieadpaeggcaa

end
section
set_option linter.unusedVariables false
set_option linter.unusedSimpArgs false
namespace Go.Proofs.Ytajieadpaeggcaa
open Go Go.Av
set_option maxRecDepth 100000
set_option maxHeartbeats 4000000
theorem getV_len : ∀ (l : List UInt8) (i v : Nat), (getV l i v).2.1 ≤ i + l.length
 | [], i, v => by simp [getV]
 | x :: l, i, v => by
   rw [getV]
   split
   ·simp
   ·split
    ·split
     ·simp
     ·simp <;> omega
    ·have := getV_len l (i + 1) (v + x.toNat % 128 * 2 ^ (7 * i))
     simp; omega
abbrev cNm : CallT := pickT 79 (immT S_get) (pickT 82 (specT S_rfail) (pickT 98 (specT S_rtake) noneT))
theorem cNm_ok [Syms] : cNm.ok Try.prog := pickT_imm_ok get_ok (pickT_spec rfail_ok (pickT_spec rtake_ok noneT_ok))
theorem takeR_len (n : Nat) (r : BR) : (takeR n r).2.b.length ≤ r.b.length := by
 unfold takeR failR
 split <;> (try split) <;> simp <;> (try split) <;> simp
theorem ren_e2 (ρ : Nat → Nat) (b : List UInt8) (e : Int) : asI (((List.map (AVal.renL ρ) [[vB b, AVal.int IntKind.i64 e]]).getD 0 []).getD 1 AVal.any) = e := rfl
theorem takeR_err {n : Nat} {r : BR} (h : r.e ≠ 0) : takeR n r = ([], r) := by
 unfold takeR failR
 simp [h]
theorem wrIN {n : Nat} (h : n ≤ 2000000) : wr .i64 (n : Int) = n := wrI (by omega)
theorem rnum_t [Syms] {Post : AVal → Heap → Nat → Prop} (r : BR) (most : Nat) (wrong : Int) (hl : r.b.length ≤ 1000000) (hm : most ≤ 1000000) (hw : wrong ≠ 0) (hP : Post (.int .i64 ((numR most wrong r).1 : Nat)) [(0, rdB (numR most wrong r).2)] 1) :
 fnT noneT cNm (fnTab fns) (tyTab tys) (plTab plt) 100 80 [.ptr 0 0 0, .int .i64 most, .int .i64 wrong] [(0, rdB r)] 1 Post := by
 obtain ⟨b, e⟩ := r
 have hl : b.length ≤ 1000000 := hl
 unfold numR at hP
 by_cases h0 : e = 0
 ·subst h0
  have hk := getV_len b 0 0
  rw [if_neg (by simp)] at hP
  unfold numR1 at hP
  simp only at hP
  repeat' (first | (refine And.intro ?_ ?_) | (intro h; try first | exact dz | replace h := cv))
  all_goals (try exact cz)
  refine ⟨b, rfl, hl, ?_⟩
  rcases hg : getV b 0 0 with ⟨v, k, x⟩
  rw [hg] at hP hk
  simp only at hP hk
  repeat' (first | (refine And.intro ?_ ?_) | (intro h; try first | exact dz | replace h := cv))
  all_goals (try exact cz)
  refine ⟨[0], [.ptr 0 0 0, .int .i64 x], [(0, rdB ⟨b, 0⟩)], rfl, ⟨.refl _, .refl _, trivial⟩, ⟨⟨by decide, _, rfl, .refl _⟩, trivial⟩, ⟨b, 0⟩, x, rfl, rfl, rfl, ?_⟩
  have hf : ∀ y : Int, failR ⟨b, 0⟩ y = ⟨b, y⟩ := fun _ => rfl
  have hq : ∀ y : Int, rdB ⟨b, y⟩ = some (.cells [[vB b, .int .i64 y]] false) := fun _ => rfl
  have hx1 := fun ρ => ren_e2 ρ b
  have hx2 := wrUN (n := most) (by omega)
  by_cases h2 : x = 0 ∧ most < v
  ·obtain ⟨hx0, h2'⟩ := h2
   subst hx0
   rw [hf, if_pos (show (0 : Int) = 0 ∧ most < v from ⟨rfl, h2'⟩), hf, takeR_err (show (BR.mk b wrong).e ≠ 0 from hw), if_pos (show (([] : List UInt8), BR.mk b wrong).2.e ≠ 0 from hw)] at hP
   rw [hf, hq]
   have hx3 := hw
   have hx4 := hw
   repeat' (first | (refine And.intro ?_ ?_) | (intro h; try first | exact dzi | replace h := cvi))
   all_goals (try exact cz)
   refine ⟨[0], [.ptr 0 0 0, .int .i64 wrong], [(0, rdB ⟨b, 0⟩)], rfl, ⟨.refl _, .refl _, trivial⟩, ⟨⟨by decide, _, rfl, .refl _⟩, trivial⟩, ⟨b, 0⟩, wrong, rfl, rfl, rfl, ?_⟩
   rw [hf, hq]
   repeat' (first | (refine And.intro ?_ ?_) | (intro h; try first | exact dzi | replace h := cvi))
   all_goals (try exact cz)
   refine ⟨[0], [.ptr 0 0 0, .int .i64 k], [(0, rdB ⟨b, wrong⟩)], rfl, ⟨.refl _, .refl _, trivial⟩, ⟨⟨by decide, _, rfl, .refl _⟩, trivial⟩, ⟨b, wrong⟩, k, rfl, rfl, rfl, ⟨hl, by omega⟩, ?_⟩
   rw [takeR_err (show (BR.mk b wrong).e ≠ 0 from hw), hq]
   repeat' (first | (refine And.intro ?_ ?_) | (intro h; try first | exact dzi | replace h := cvi))
   all_goals (try exact cz)
   exact ⟨⟨[(6, .int .i64 0)], [(0, rdB ⟨b, wrong⟩)], 1⟩, reb_num [0] (by first | rfl | kernel_rfl) ⟨.refl _, trivial⟩ ⟨⟨by decide, _, rfl, .refl _⟩, trivial⟩, _, rfl, hP⟩
  ·rw [hf, if_neg h2] at hP
   rw [hf, hq]
   by_cases h3 : x = 0
   ·subst h3
    have h4 : v ≤ most := by omega
    have hx4 := wrIN (n := v) (by omega)
    have hx3 := hx4
    repeat' (first | (refine And.intro ?_ ?_) | (intro h; try first | exact dzi | replace h := cvi))
    all_goals (try exact cz)
    refine ⟨[0], [.ptr 0 0 0, .int .i64 k], [(0, rdB ⟨b, 0⟩)], rfl, ⟨.refl _, .refl _, trivial⟩, ⟨⟨by decide, _, rfl, .refl _⟩, trivial⟩, ⟨b, 0⟩, k, rfl, rfl, rfl, ⟨hl, by omega⟩, ?_⟩
    rcases ht : takeR k ⟨b, 0⟩ with ⟨t, b', e'⟩
    rw [ht] at hP
    have hx3 := fun ρ => ren_e2 ρ b' e'
    rw [show rdB (t, BR.mk b' e').2 = some (.cells [[vB b', .int .i64 e']] false) from rfl]
    by_cases h5 : e' = 0
    ·rw [if_neg (show ¬ (t, BR.mk b' e').2.e ≠ 0 from fun h => h h5)] at hP
     repeat' (first | (refine And.intro ?_ ?_) | (intro h; try first | exact dzi | replace h := cvi))
     all_goals (try exact cz)
     refine ⟨⟨[(6, .int .i64 (v : Nat))], [(0, rdB ⟨b', e'⟩)], 1⟩, reb_num [0] (by first | rfl | kernel_rfl) ⟨wk_int hx4, trivial⟩ ⟨⟨by decide, _, rfl, .refl _⟩, trivial⟩, _, rfl, hP⟩
    ·rw [if_pos (show (t, BR.mk b' e').2.e ≠ 0 from h5)] at hP
     repeat' (first | (refine And.intro ?_ ?_) | (intro h; try first | exact dzi | replace h := cvi))
     all_goals (try exact cz)
     exact ⟨⟨[(6, .int .i64 0)], [(0, rdB ⟨b', e'⟩)], 1⟩, reb_num [0] (by first | rfl | kernel_rfl) ⟨.refl _, trivial⟩ ⟨⟨by decide, _, rfl, .refl _⟩, trivial⟩, _, rfl, hP⟩
   ·rw [takeR_err (show (BR.mk b x).e ≠ 0 from h3), if_pos (show (([] : List UInt8), BR.mk b x).2.e ≠ 0 from h3)] at hP
    have hx3 := h3
    have hx4 := h3
    repeat' (first | (refine And.intro ?_ ?_) | (intro h; try first | exact dzi | replace h := cvi))
    all_goals (try exact cz)
    refine ⟨[0], [.ptr 0 0 0, .int .i64 k], [(0, rdB ⟨b, x⟩)], rfl, ⟨.refl _, .refl _, trivial⟩, ⟨⟨by decide, _, rfl, .refl _⟩, trivial⟩, ⟨b, x⟩, k, rfl, rfl, rfl, ⟨hl, by omega⟩, ?_⟩
    rw [takeR_err (show (BR.mk b x).e ≠ 0 from h3), hq]
    repeat' (first | (refine And.intro ?_ ?_) | (intro h; try first | exact dzi | replace h := cvi))
    all_goals (try exact cz)
    exact ⟨⟨[(6, .int .i64 0)], [(0, rdB ⟨b, x⟩)], 1⟩, reb_num [0] (by first | rfl | kernel_rfl) ⟨.refl _, trivial⟩ ⟨⟨by decide, _, rfl, .refl _⟩, trivial⟩, _, rfl, hP⟩
 ·rw [if_pos h0] at hP
  repeat' (first | (refine And.intro ?_ ?_) | (intro h; try first | exact dz | replace h := cv))
  all_goals (try exact cz)
  exact ⟨⟨[(6, .int .i64 0)], [(0, rdB ⟨b, e⟩)], 1⟩, reb_num [0] (by first | rfl | kernel_rfl) ⟨.refl _, trivial⟩ ⟨⟨by decide, _, rfl, .refl _⟩, trivial⟩, _, rfl, hP⟩
def S_rnum : SpecT := fun args H nx Post => ∃ (r : BR) (most : Nat) (wrong : Int), args = [.ptr 0 0 0, .int .i64 most, .int .i64 wrong] ∧ H = [(0, rdB r)] ∧ nx = 1 ∧ (r.b.length ≤ 1000000 ∧ most ≤ 1000000 ∧ wrong ≠ 0) ∧ Post (.int .i64 ((numR most wrong r).1 : Nat)) [(0, rdB (numR most wrong r).2)] 1
theorem rnum_ok [Syms] : S_rnum.ok Try.prog 80 := by
 rintro args H nx Post ⟨r, most, wrong, rfl, rfl, rfl, ⟨h1, h2, h3⟩, h⟩
 exact fnT_sound tys_ok fns_ok noneT_det cNm_ok mixed (rnum_t r most wrong h1 h2 h3 h)
end Go.Proofs.Ytajieadpaeggcaa

end
section
set_option linter.unusedVariables false
set_option linter.unusedSimpArgs false
namespace Go.Proofs.Ytajieadpaeggcaa
open Go Go.Av
set_option maxRecDepth 100000
set_option maxHeartbeats 4000000
abbrev rdN (k : Int) : Option Blk := some (.cells [[.nils, .int .i64 k]] false)
theorem cfail_t [Syms] {Post : AVal → Heap → Nat → Prop} (b : List UInt8) (k : Int) (hk : k ≠ 0) (hP : Post (.tup []) [(0, rdN k)] 1) :
 fnT noneT noneT (fnTab fns) (tyTab tys) (plTab plt) 100 118 [.ptr 0 0 0, .int .i64 k] [(0, rdB ⟨b, 0⟩)] 1 Post := by
 have hx1 := hk
 have hx2 := hk
 have hx3 := hk
 have hx4 := hk
 repeat' (first | (refine And.intro ?_ ?_) | (intro h; try first | exact dzi | replace h := cvi))
 all_goals (try exact cz)
 ·exact ⟨⟨[], [(0, rdN k)], 1⟩, reb_num [0] (by first | rfl | kernel_rfl) trivial ⟨⟨by decide, _, rfl, .refl _⟩, trivial⟩, _, rfl, hP⟩
 ·exact absurd (show k = 0 from h) hk
def S_cfail : SpecT := fun args H nx Post => ∃ (b : List UInt8) (k : Int), args = [.ptr 0 0 0, .int .i64 k] ∧ H = [(0, rdB ⟨b, 0⟩)] ∧ nx = 1 ∧ k ≠ 0 ∧ Post (.tup []) [(0, rdN k)] 1
theorem cfail_ok [Syms] : S_cfail.ok Try.prog 118 := by
 rintro args H nx Post ⟨b, k, rfl, rfl, rfl, h1, h⟩
 exact fnT_sound tys_ok fns_ok noneT_det noneT_ok mixed (cfail_t b k h1 h)
abbrev cCt : CallT := pickT 118 (specT S_cfail) noneT
theorem cCt_ok [Syms] : cCt.ok Try.prog := pickT_spec cfail_ok noneT_ok
theorem mx0 (n : Nat) : (if (n : Int) < 0 then 0 else (n : Int)) = n := if_neg (by omega)
theorem ctake_t [Syms] {Post : AVal → Heap → Nat → Prop} (b : List UInt8) (n : Nat) (hl : b.length ≤ 1000000) (hn : n ≤ b.length) (hP : Post (vB (b.take n)) [(0, rdB ⟨b.drop n, 0⟩)] 1) :
 fnT noneT cCt (fnTab fns) (tyTab tys) (plTab plt) 100 117 [.ptr 0 0 0, .int .i64 n] [(0, rdB ⟨b, 0⟩)] 1 Post := by
 have hmx := mx0 n
 have hx1 := hmx
 have hx2 := hmx
 have hx3 := hmx
 have hx4 := hmx
 repeat' (first | (refine And.intro ?_ ?_) | (intro h; try first | exact dzi | replace h := cvi))
 all_goals (try exact cz)
 all_goals (try ((with_reducible show (_ : Nat) ≤ (_ : Nat)); show (if (n : Int) < 0 then 0 else (n : Int)).toNat ≤ b.length; rw [hmx]; omega))
 all_goals (try ((with_reducible show (_ : Int) ≤ (_ : Int)); show 0 ≤ (if (n : Int) < 0 then 0 else (n : Int)); rw [hmx]; omega))
 refine ⟨_, reb_take (k := 4) (b := b) (n := n) hn (by first | rfl | kernel_rfl) ?_ ?_, _, rfl, hP⟩
 ·show AVal.vt 1 ((if (n : Int) < 0 then 0 else (n : Int)).toNat - 0) (fun i => encB (b.getD (0 + i) 0)) = _
  rw [hmx]; rfl
 ·show some (Blk.cells [[AVal.vt 1 (b.length - (if (n : Int) < 0 then 0 else (n : Int)).toNat) (fun i => encB (b.getD ((if (n : Int) < 0 then 0 else (n : Int)).toNat + i) 0)), .int .i64 0]] false) = _
  rw [hmx]; rfl
theorem ctakeN_t [Syms] {Post : AVal → Heap → Nat → Prop} (b : List UInt8) (n : Nat) (hl : b.length ≤ 1000000) (hn : b.length < n) (hn2 : n ≤ 1000000000) (hP : Post .nils [(0, rdN 8)] 1) :
 fnT noneT cCt (fnTab fns) (tyTab tys) (plTab plt) 100 117 [.ptr 0 0 0, .int .i64 n] [(0, rdB ⟨b, 0⟩)] 1 Post := by
 have hmx := mx0 n
 have hx1 := hmx
 have hx2 := hmx
 have hx3 := hmx
 have hx4 := hmx
 repeat' (first | (refine And.intro ?_ ?_) | (intro h; try first | exact dzi | replace h := cvi))
 all_goals (try exact cz)
 refine ⟨[0], [.ptr 0 0 0, .int .i64 8], [(0, rdB ⟨b, 0⟩)], rfl, ⟨.refl _, .refl _, trivial⟩, ⟨⟨by decide, _, rfl, .refl _⟩, trivial⟩, b, 8, rfl, rfl, rfl, by decide, ?_⟩
 repeat' (first | (refine And.intro ?_ ?_) | (intro h; try first | exact dzi | replace h := cvi))
 all_goals (try exact cz)
 exact ⟨⟨[(4, .nils)], [(0, rdN 8)], 1⟩, reb_num [0] (by first | rfl | kernel_rfl) ⟨.refl _, trivial⟩ ⟨⟨by decide, _, rfl, .refl _⟩, trivial⟩, _, rfl, hP⟩
def S_ctake : SpecT := fun args H nx Post => ∃ (b : List UInt8) (n : Nat), args = [.ptr 0 0 0, .int .i64 n] ∧ H = [(0, rdB ⟨b, 0⟩)] ∧ nx = 1 ∧ (b.length ≤ 1000000 ∧ n ≤ 1000000000) ∧ (n ≤ b.length ∧ Post (vB (b.take n)) [(0, rdB ⟨b.drop n, 0⟩)] 1 ∨ b.length < n ∧ Post .nils [(0, rdN 8)] 1)
theorem ctake_ok [Syms] : S_ctake.ok Try.prog 117 := by
 rintro args H nx Post ⟨b, n, rfl, rfl, rfl, ⟨h1, h2⟩, ⟨h3, h⟩ | ⟨h3, h⟩⟩
 ·exact fnT_sound tys_ok fns_ok noneT_det cCt_ok mixed (ctake_t b n h1 h3 h)
 ·exact fnT_sound tys_ok fns_ok noneT_det cCt_ok mixed (ctakeN_t b n h1 h3 h2 h)
end Go.Proofs.Ytajieadpaeggcaa

end
section
set_option linter.unusedVariables false
set_option linter.unusedSimpArgs false
namespace Go.Proofs.Ytajieadpaeggcaa
open Go Go.Av
set_option maxRecDepth 100000
set_option maxHeartbeats 4000000
theorem leV_snoc : ∀ (l : List UInt8) (x : UInt8), leV (l ++ [x]) = leV l + 256 ^ l.length * x.toNat
 | [], x => by simp [leV]
 | y :: l, x => by
   rw [List.cons_append, leV, leV, leV_snoc l x, List.length_cons, Nat.pow_succ, Nat.mul_add, Nat.add_assoc, ← Nat.mul_assoc, Nat.mul_comm 256 (256 ^ l.length)]
theorem leV_lt : ∀ (l : List UInt8), leV l < 256 ^ l.length
 | [] => by simp [leV]
 | y :: l => by
   have := leV_lt l
   have hy := y.toNat_lt
   rw [leV, List.length_cons, Nat.pow_succ]
   omega
theorem leV_take {l : List UInt8} {i : Nat} (h : i < l.length) : leV (l.take (i + 1)) = leV (l.take i) + 256 ^ i * (l.getD i 0).toNat := by
 rw [List.take_add_one, List.getElem?_eq_getElem h]
 show leV (l.take i ++ [l[i]]) = _
 rw [leV_snoc, List.length_take, Nat.min_eq_left (by omega), List.getD_eq_getElem?_getD, List.getElem?_eq_getElem h]; rfl
theorem step8 (v x i : Nat) (hv : v < 256 ^ i) (hi : i < 8) (hx : x < 256) :
 IntKind.u64.wrap (((BitVec.ofInt 64 (v : Int) ||| BitVec.ofInt 64 (wr .u64 (wr .u64 (x : Int) * 2 ^ min ((8 * (i : Int)).toNat) 64))).toNat : Nat) : Int) = ((v + 256 ^ i * x : Nat) : Int) := by
 have e : 256 ^ i = 2 ^ (8 * i) := by rw [show (256 : Nat) = 2 ^ 8 from rfl, ← Nat.pow_mul]
 rw [e] at hv ⊢
 have h1 : (8 * (i : Int)).toNat = 8 * i := by omega
 have hp : 0 < 2 ^ (8 * i) := Nat.pow_pos (by decide)
 have h3 : 2 ^ (8 * i) ≤ 2 ^ 56 := Nat.pow_le_pow_right (by decide) (by omega)
 have h2 : (x + 1) * 2 ^ (8 * i) ≤ 256 * 2 ^ 56 := Nat.mul_le_mul (by omega) h3
 rw [Nat.add_mul, Nat.one_mul] at h2
 have hs : wr .u64 (wr .u64 (x : Int) * 2 ^ min ((8 * (i : Int)).toNat) 64) = ((x * 2 ^ (8 * i) : Nat) : Int) := by
  rw [h1, Nat.min_eq_left (by omega), wrUN (n := x) (by omega), ← wrUN (n := x * 2 ^ (8 * i)) (by omega)]
  congr 1
 have hm : ∀ n : Nat, n < 2 ^ 64 → (BitVec.ofInt 64 (n : Int)).toNat = n := fun n hn => by simp; omega
 rw [hs]
 have ho : (BitVec.ofInt 64 (v : Int) ||| BitVec.ofInt 64 ((x * 2 ^ (8 * i) : Nat) : Int)).toNat = v + 2 ^ (8 * i) * x := by
  rw [BitVec.toNat_or, hm v (by omega), hm _ (by omega), ← Nat.shiftLeft_eq, Nat.or_comm, ← Nat.shiftLeft_add_eq_or_of_lt hv, Nat.add_comm, Nat.shiftLeft_eq, Nat.mul_comm]
 rw [ho, Nat.mul_comm]
 generalize hn : v + x * 2 ^ (8 * i) = n
 have hn64 : n < 2 ^ 64 := by omega
 simp [IntKind.wrap, IntKind.bits, IntKind.signed]
 try omega
abbrev cCg : CallT := pickT 117 (specT S_ctake) noneT
theorem cCg_ok [Syms] : cCg.ok Try.prog := pickT_spec ctake_ok noneT_ok
def gtS (bs : List UInt8) (i v : Nat) (B : Option Blk) : St := ⟨[(6, .int .u64 v), (15, vB bs), (16, .int .i64 bs.length), (17, .int .i64 i)], [(0, B)], 1⟩
theorem cget_t [Syms] {Post : AVal → Heap → Nat → Prop} (b : List UInt8) (n : Nat) (hl : b.length ≤ 1000000) (hn : n ≤ b.length) (hn8 : n ≤ 8) (hP : Post (.int .u64 (leV (b.take n) : Nat)) [(0, rdB ⟨b.drop n, 0⟩)] 1) :
 fnT noneT cCg (fnTab fns) (tyTab tys) (plTab plt) 100 112 [.ptr 0 0 0, .int .i64 n] [(0, rdB ⟨b, 0⟩)] 1 Post := by
 repeat' (first | (refine And.intro ?_ ?_) | (intro h; try first | exact dz | replace h := cv))
 all_goals (try exact cz)
 refine ⟨[0], [.ptr 0 0 0, .int .i64 n], [(0, rdB ⟨b, 0⟩)], rfl, ⟨.refl _, .refl _, trivial⟩, ⟨⟨by decide, _, rfl, .refl _⟩, trivial⟩, b, n, rfl, rfl, rfl, ⟨hl, by omega⟩, .inl ⟨hn, ?_⟩⟩
 have hbl : (b.take n).length ≤ 8 := by rw [List.length_take]; omega
 have hbl2 : (b.drop n).length ≤ 1000000 := by rw [List.length_drop]; omega
 generalize b.take n = bs at *
 generalize b.drop n = b2 at *
 refine ⟨fun m s => ∃ i : Nat, (i ≤ bs.length ∧ m = bs.length - i) ∧ s = gtS bs i (leV (bs.take i)) (rdB ⟨b2, 0⟩), ⟨_, gtS bs 0 (leV (bs.take 0)) (rdB ⟨b2, 0⟩), reb_num [0] (by first | rfl | kernel_rfl) ⟨.refl _, .refl _, .refl _, .refl _, trivial⟩ ⟨⟨by decide, _, rfl, .refl _⟩, trivial⟩, 0, ⟨by omega, rfl⟩, rfl⟩, ?_⟩
 rintro m s ⟨i, ⟨hi, rfl⟩, rfl⟩
 by_cases h1 : i < bs.length
 ·repeat' (first | (refine And.intro ?_ ?_) | (intro h; try first | exact dz | replace h := cv))
  all_goals (try exact cz)
  refine ⟨_, gtS bs (i + 1) (leV (bs.take (i + 1))) (rdB ⟨b2, 0⟩), reb_num [0] (by first | rfl | kernel_rfl) ⟨wk_int ?_, .refl _, .refl _, wk_int (by omega), trivial⟩ ⟨⟨by decide, _, rfl, .refl _⟩, trivial⟩, ⟨i + 1, ⟨by omega, rfl⟩, rfl⟩, by omega⟩
  rw [leV_take h1]
  exact step8 (leV (bs.take i)) (bs.getD i 0).toNat i (by have := leV_lt (bs.take i); rwa [List.length_take, Nat.min_eq_left (by omega)] at this) (by omega) (bs.getD i 0).toNat_lt
 ·obtain rfl : i = bs.length := by omega
  rw [List.take_length]
  repeat' (first | (refine And.intro ?_ ?_) | (intro h; try first | exact dz | replace h := cv))
  all_goals (try exact cz)
  exact ⟨⟨[(4, .int .u64 (leV bs : Nat))], [(0, rdB ⟨b2, 0⟩)], 1⟩, reb_num [0] (by first | rfl | kernel_rfl) ⟨.refl _, trivial⟩ ⟨⟨by decide, _, rfl, .refl _⟩, trivial⟩, _, rfl, hP⟩
theorem cgetN_t [Syms] {Post : AVal → Heap → Nat → Prop} (b : List UInt8) (n : Nat) (hl : b.length ≤ 1000000) (hn : b.length < n) (hn8 : n ≤ 8) (hP : Post (.int .u64 (0 : Nat)) [(0, rdN 8)] 1) :
 fnT noneT cCg (fnTab fns) (tyTab tys) (plTab plt) 100 112 [.ptr 0 0 0, .int .i64 n] [(0, rdB ⟨b, 0⟩)] 1 Post := by
 repeat' (first | (refine And.intro ?_ ?_) | (intro h; try first | exact dz | replace h := cv))
 all_goals (try exact cz)
 refine ⟨[0], [.ptr 0 0 0, .int .i64 n], [(0, rdB ⟨b, 0⟩)], rfl, ⟨.refl _, .refl _, trivial⟩, ⟨⟨by decide, _, rfl, .refl _⟩, trivial⟩, b, n, rfl, rfl, rfl, ⟨hl, by omega⟩, .inr ⟨hn, ?_⟩⟩
 refine loop_once ?_
 repeat' (first | (refine And.intro ?_ ?_) | (intro h; try first | exact dz | replace h := cv))
 all_goals (try exact cz)
 exact ⟨⟨[(4, .int .u64 (0 : Nat))], [(0, rdN 8)], 1⟩, reb_num [0] (by first | rfl | kernel_rfl) ⟨.refl _, trivial⟩ ⟨⟨by decide, _, rfl, .refl _⟩, trivial⟩, _, rfl, hP⟩
def S_cget : SpecT := fun args H nx Post => ∃ (b : List UInt8) (n : Nat), args = [.ptr 0 0 0, .int .i64 n] ∧ H = [(0, rdB ⟨b, 0⟩)] ∧ nx = 1 ∧ (b.length ≤ 1000000 ∧ n ≤ 8) ∧ (n ≤ b.length ∧ Post (.int .u64 (leV (b.take n) : Nat)) [(0, rdB ⟨b.drop n, 0⟩)] 1 ∨ b.length < n ∧ Post (.int .u64 (0 : Nat)) [(0, rdN 8)] 1)
theorem cget_ok [Syms] : S_cget.ok Try.prog 112 := by
 rintro args H nx Post ⟨b, n, rfl, rfl, rfl, ⟨h1, h2⟩, ⟨h3, h⟩ | ⟨h3, h⟩⟩
 ·exact fnT_sound tys_ok fns_ok noneT_det cCg_ok mixed (cget_t b n h1 h3 h2 h)
 ·exact fnT_sound tys_ok fns_ok noneT_det cCg_ok mixed (cgetN_t b n h1 h3 h2 h)
end Go.Proofs.Ytajieadpaeggcaa

end
section
set_option linter.unusedVariables false
set_option linter.unusedSimpArgs false
namespace Go.Proofs.Ytajieadpaeggcaa
open Go Go.Av
set_option maxRecDepth 100000
set_option maxHeartbeats 4000000
def S_cloneB : SpecI := fun args K => ∃ l, args = [vB l] ∧ l.length ≤ 1000000 ∧ K (vB l)
theorem cloneB_ok [Syms] : ImmOk Try.prog 46 S_cloneB := by
 rintro args K ⟨l, rfl, h, hk⟩
 exact ⟨rfl, _, rfl, hk, fnI tys_ok fns_ok noneT_det noneT_ok mixed (cloneB_t l h)⟩
abbrev cNw : CallT := pickT 46 (immT S_cloneB) noneT
theorem cNw_ok [Syms] : cNw.ok Try.prog := pickT_imm_ok cloneB_ok noneT_ok
theorem cnew_t [Syms] {Post : AVal → Heap → Nat → Prop} (b : List UInt8) (hl : b.length ≤ 1000000) (hP : Post (.ptr 0 0 0) [(0, rdB ⟨b, 0⟩)] 1) :
 fnT noneT cNw (fnTab fns) (tyTab tys) (plTab plt) 100 111 [vB b] [] 0 Post := by
 refine ⟨b, rfl, hl, ?_⟩
 repeat' (first | (refine And.intro ?_ ?_) | (intro h; try first | exact dz | replace h := cv))
 all_goals (try exact cz)
 exact ⟨⟨[(2, .ptr 0 0 0)], [(0, rdB ⟨b, 0⟩)], 1⟩, reb_num [0] (by first | rfl | kernel_rfl) ⟨.refl _, trivial⟩ ⟨⟨by decide, _, rfl, .refl _⟩, trivial⟩, _, rfl, hP⟩
def S_cnew : SpecT := fun args H nx Post => ∃ (b : List UInt8), args = [vB b] ∧ H = [] ∧ nx = 0 ∧ b.length ≤ 1000000 ∧ Post (.ptr 0 0 0) [(0, rdB ⟨b, 0⟩)] 1
theorem cnew_ok [Syms] : S_cnew.ok Try.prog 111 := by
 rintro args H nx Post ⟨b, rfl, rfl, rfl, h1, h⟩
 exact fnT_sound tys_ok fns_ok noneT_det cNw_ok mixed (cnew_t b h1 h)
abbrev cBy : CallT := pickT 98 (specT S_rtake) (pickT 111 (specT S_cnew) (pickT 112 (specT S_cget) noneT))
theorem cBy_ok [Syms] : cBy.ok Try.prog := pickT_spec rtake_ok (pickT_spec cnew_ok (pickT_spec cget_ok noneT_ok))
theorem takeR_le (n : Nat) (r : BR) : (takeR n r).1.length ≤ n := by
 unfold takeR
 generalize (if r.b.length < n then failR r 8 else r) = q
 by_cases h : q.e ≠ 0
 ·rw [if_pos h]; simp
 ·rw [if_neg h]; simp [List.length_take]; omega
theorem leV_one {t : List UInt8} (h : t.length ≤ 1) : leV t < 256 := by
 have h1 := leV_lt t
 have h2 : 256 ^ t.length ≤ 256 ^ 1 := Nat.pow_le_pow_right (by decide) h
 omega
theorem rbyte_t [Syms] {Post : AVal → Heap → Nat → Prop} (r : BR) (hl : r.b.length ≤ 1000000) (hP : Post (.int .i64 ((fixR 1 r).1 : Nat)) [(0, rdB (fixR 1 r).2)] 1) :
 fnT noneT cBy (fnTab fns) (tyTab tys) (plTab plt) 100 99 [.ptr 0 0 0] [(0, rdB r)] 1 Post := by
 refine ⟨[0], [.ptr 0 0 0, .int .i64 ((1 : Nat) : Int)], [(0, rdB r)], rfl, ⟨.refl _, .refl _, trivial⟩, ⟨⟨by decide, _, rfl, .refl _⟩, trivial⟩, r, 1, rfl, rfl, rfl, ⟨hl, by omega⟩, ?_⟩
 unfold fixR at hP
 have hle := takeR_le 1 r
 generalize takeR 1 r = q at *
 obtain ⟨t, r2⟩ := q
 refine ⟨[], [vB t], [], rfl, ⟨.refl _, trivial⟩, trivial, t, rfl, rfl, rfl, by have : t.length ≤ 1 := hle; omega, ?_⟩
 have hle : t.length ≤ 1 := hle
 have hP : Post (.int .i64 (leV t : Nat)) [(0, rdB r2)] 1 := hP
 have hv := leV_one hle
 have hwr : wr .i64 ((leV t : Nat) : Int) = ((leV t : Nat) : Int) := wrIN (by omega)
 by_cases h0 : t.length = 0
 ·have ht : t = [] := List.eq_nil_of_length_eq_zero h0
  subst ht
  refine ⟨[2], [.ptr 0 0 0, .int .i64 ((1 : Nat) : Int)], [(0, rdB ⟨[], 0⟩)], rfl, ⟨.refl _, .refl _, trivial⟩, ⟨⟨by decide, _, rfl, .refl _⟩, trivial⟩, [], 1, rfl, rfl, rfl, ⟨by simp, by omega⟩, .inr ⟨by simp, ?_⟩⟩
  repeat' (first | (refine And.intro ?_ ?_) | (intro h; try first | exact dz | replace h := cv))
  all_goals (try exact cz)
  exact ⟨⟨[(2, .int .i64 (leV [] : Nat))], [(0, rdB r2)], 1⟩, reb_num [0] (by first | rfl | kernel_rfl) ⟨.refl _, trivial⟩ ⟨⟨by decide, _, rfl, .refl _⟩, trivial⟩, _, rfl, hP⟩
 ·have ht : t.take 1 = t := List.take_of_length_le hle
  refine ⟨[2], [.ptr 0 0 0, .int .i64 ((1 : Nat) : Int)], [(0, rdB ⟨t, 0⟩)], rfl, ⟨.refl _, .refl _, trivial⟩, ⟨⟨by decide, _, rfl, .refl _⟩, trivial⟩, t, 1, rfl, rfl, rfl, ⟨by omega, by omega⟩, .inl ⟨by omega, ?_⟩⟩
  rw [ht]
  repeat' (first | (refine And.intro ?_ ?_) | (intro h; try first | exact dz | replace h := cv))
  all_goals (try exact cz)
  exact ⟨⟨[(2, .int .i64 (leV t : Nat))], [(0, rdB r2)], 1⟩, reb_num [0] (by first | rfl | kernel_rfl) ⟨wk_int hwr, trivial⟩ ⟨⟨by decide, _, rfl, .refl _⟩, trivial⟩, _, rfl, hP⟩
def S_rbyte : SpecT := fun args H nx Post => ∃ (r : BR), args = [.ptr 0 0 0] ∧ H = [(0, rdB r)] ∧ nx = 1 ∧ r.b.length ≤ 1000000 ∧ Post (.int .i64 ((fixR 1 r).1 : Nat)) [(0, rdB (fixR 1 r).2)] 1
theorem rbyte_ok [Syms] : S_rbyte.ok Try.prog 99 := by
 rintro args H nx Post ⟨r, rfl, rfl, rfl, h1, h⟩
 exact fnT_sound tys_ok fns_ok noneT_det cBy_ok mixed (rbyte_t r h1 h)
end Go.Proofs.Ytajieadpaeggcaa

end
section
set_option linter.unusedVariables false
set_option linter.unusedSimpArgs false
namespace Go.Proofs.Ytajieadpaeggcaa
open Go Go.Av
set_option maxRecDepth 100000
set_option maxHeartbeats 4000000
abbrev cFl : CallT := pickT 99 (specT S_rbyte) (pickT 80 (specT S_rnum) (pickT 98 (specT S_rtake) noneT))
theorem cFl_ok [Syms] : cFl.ok Try.prog := pickT_spec rbyte_ok (pickT_spec rnum_ok (pickT_spec rtake_ok noneT_ok))
theorem failR_b (r : BR) (x : Int) : (failR r x).b = r.b := by unfold failR; split <;> rfl
theorem fixR_len (n : Nat) (r : BR) : (fixR n r).2.b.length ≤ r.b.length := takeR_len n r
theorem numR_len (m : Nat) (w : Int) (r : BR) : (numR m w r).2.b.length ≤ r.b.length := by
 have h1 : (numR1 m w r).b = r.b := by unfold numR1; split <;> simp [failR_b]
 have h2 := takeR_len (getV r.b 0 0).2.1 (numR1 m w r)
 rw [h1] at h2
 unfold numR
 split
 ·exact Nat.le_refl _
 ·split <;> exact h2
theorem bytesB : ∀ (l : List UInt8), areBytes (l.map encB) = true ∧ bytesOf (l.map encB) = l
 | [] => ⟨rfl, rfl⟩
 | b :: l => by
   obtain ⟨h1, h2⟩ := bytesB l
   have hb := b.toNat_lt
   refine ⟨?_, ?_⟩
   ·rw [List.map_cons, areBytes, List.all_cons, Bool.and_eq_true]
    exact ⟨by simp [isByteRow, encB], h1⟩
   ·rw [List.map_cons, bytesOf, List.map_cons]
    have e : UInt8.ofNat (asI ((encB b).getD 0 .any)).toNat = b := by
     show UInt8.ofNat ((b.toNat : Int)).toNat = b
     rw [Int.toNat_natCast, UInt8.ofNat_toNat]
    rw [e]
    exact congrArg (b :: ·) h2
theorem bytesT (t : List UInt8) : areBytes (tabR t.length fun i => encB (t.getD i 0)) = true ∧ bytesOf (tabR t.length fun i => encB (t.getD i 0)) = t := by
 rw [tabR_map encB 0 t]; exact bytesB t
theorem numR_le {m : Nat} {w : Int} (hw : w ≠ 0) (r : BR) : (numR m w r).1 ≤ m := by
 unfold numR
 by_cases h : r.e ≠ 0
 ·rw [if_pos h]; exact Nat.zero_le _
 ·rw [if_neg h]
  by_cases h2 : (takeR (getV r.b 0 0).2.1 (numR1 m w r)).2.e ≠ 0
  ·rw [if_pos h2]; exact Nat.zero_le _
  ·rw [if_neg h2]
   show (getV r.b 0 0).1 ≤ m
   apply Decidable.byContradiction
   intro hc
   apply h2
   have h0 : r.e = 0 := Decidable.not_not.1 h
   have hf : ∀ y, failR r y = ⟨r.b, y⟩ := fun y => if_pos h0
   have hq : (numR1 m w r).e ≠ 0 := by
    unfold numR1
    by_cases hx : (getV r.b 0 0).2.2 = 0
    ·rw [if_pos ⟨hx, by omega⟩, hf, hx]
     exact hw
    ·rw [if_neg (fun hh => hx hh.1), hf]
     exact hx
   rw [takeR_err hq]
   exact hq
theorem rfield_t [Syms] {Post : AVal → Heap → Nat → Prop} (r : BR) (hl : r.b.length ≤ 1000000) (hP : Post (.agg (encF (fieldR r).1)) [(0, rdB (fieldR r).2), (1, some (.cells [encF (fieldR r).1] false))] 2) :
 fnT noneT cFl (fnTab fns) (tyTab tys) (plTab plt) 100 81 [.ptr 0 0 0] [(0, rdB r)] 1 Post := by
 unfold fieldR at hP
 simp only at hP
 refine ⟨[0], [.ptr 0 0 0], [(0, rdB r)], rfl, ⟨.refl _, trivial⟩, ⟨⟨by decide, _, rfl, .refl _⟩, trivial⟩, r, rfl, rfl, rfl, hl, ?_⟩
 have l1 := fixR_len 1 r
 generalize fixR 1 r = q1 at *
 obtain ⟨v1, r1⟩ := q1
 have l1 : r1.b.length ≤ r.b.length := l1
 refine ⟨[0], [.ptr 0 0 0], [(0, rdB r1)], rfl, ⟨.refl _, trivial⟩, ⟨⟨by decide, _, rfl, .refl _⟩, trivial⟩, r1, rfl, rfl, rfl, by omega, ?_⟩
 have l2 := fixR_len 1 r1
 have hP : Post (.agg (encF ⟨(takeR (numR 12 5 (numR 40 14 (fixR 1 r1).2).2).1 (numR 12 5 (numR 40 14 (fixR 1 r1).2).2).2).1, v1, (fixR 1 r1).1, (numR 40 14 (fixR 1 r1).2).1⟩)) [(0, rdB (takeR (numR 12 5 (numR 40 14 (fixR 1 r1).2).2).1 (numR 12 5 (numR 40 14 (fixR 1 r1).2).2).2).2), (1, some (.cells [encF ⟨(takeR (numR 12 5 (numR 40 14 (fixR 1 r1).2).2).1 (numR 12 5 (numR 40 14 (fixR 1 r1).2).2).2).1, v1, (fixR 1 r1).1, (numR 40 14 (fixR 1 r1).2).1⟩] false))] 2 := hP
 generalize fixR 1 r1 = q2 at *
 obtain ⟨v2, r2⟩ := q2
 have l2 : r2.b.length ≤ r1.b.length := l2
 refine ⟨[0], [.ptr 0 0 0, .int .i64 ((40 : Nat) : Int), .int .i64 14], [(0, rdB r2)], rfl, ⟨.refl _, .refl _, .refl _, trivial⟩, ⟨⟨by decide, _, rfl, .refl _⟩, trivial⟩, r2, 40, 14, rfl, rfl, rfl, ⟨by omega, by omega, by decide⟩, ?_⟩
 have l3 := numR_len 40 14 r2
 generalize numR 40 14 r2 = q3 at *
 obtain ⟨v3, r3⟩ := q3
 have l3 : r3.b.length ≤ r2.b.length := l3
 repeat' (first | (refine And.intro ?_ ?_) | (intro h; try first | exact dz | replace h := cv))
 all_goals (try exact cz)
 refine ⟨[0], [.ptr 0 0 0, .int .i64 ((12 : Nat) : Int), .int .i64 5], [(0, rdB r3)], rfl, ⟨.refl _, .refl _, .refl _, trivial⟩, ⟨⟨by decide, _, rfl, .refl _⟩, trivial⟩, r3, 12, 5, rfl, rfl, rfl, ⟨by omega, by omega, by decide⟩, ?_⟩
 have l4 := numR_len 12 5 r3
 have l5 : (numR 12 5 r3).1 ≤ 1000000000 := by have := numR_le (m := 12) (w := 5) (by decide) r3; omega
 generalize numR 12 5 r3 = q4 at *
 obtain ⟨v4, r4⟩ := q4
 have l4 : r4.b.length ≤ r3.b.length := l4
 refine ⟨[0], [.ptr 0 0 0, .int .i64 (v4 : Nat)], [(0, rdB r4)], rfl, ⟨.refl _, .refl _, trivial⟩, ⟨⟨by decide, _, rfl, .refl _⟩, trivial⟩, r4, v4, rfl, rfl, rfl, ⟨by omega, l5⟩, ?_⟩
 generalize takeR v4 r4 = q5 at *
 obtain ⟨t, r5⟩ := q5
 repeat' (first | (refine And.intro ?_ ?_) | (intro h; try first | exact dz | replace h := cv))
 all_goals (try exact cz)
 ·exact (bytesT t).1
 refine ⟨⟨[(2, .ptr 1 0 0)], [(0, rdB r5), (1, some (.cells [encF ⟨t, v1, v2, v3⟩] false))], 2⟩, reb_num [0, 1] (by first | rfl | kernel_rfl) ⟨.refl _, trivial⟩ ⟨⟨by decide, _, rfl, .refl _⟩, ⟨by decide, _, rfl, wkB_eq ?_ (fF [⟨t, v1, v2, v3⟩])⟩, trivial⟩, _, rfl, hP⟩
 show [[AVal.str (bytesOf (tabR t.length fun i => encB (t.getD i 0))), .int .i64 v1, .int .i64 v2, .int .i64 v3]] = _
 rw [(bytesT t).2]; rfl
def S_rfield : SpecT := fun args H nx Post => ∃ (r : BR), args = [.ptr 0 0 0] ∧ H = [(0, rdB r)] ∧ nx = 1 ∧ r.b.length ≤ 1000000 ∧ Post (.agg (encF (fieldR r).1)) [(0, rdB (fieldR r).2), (1, some (.cells [encF (fieldR r).1] false))] 2
theorem rfield_ok [Syms] : S_rfield.ok Try.prog 81 := by
 rintro args H nx Post ⟨r, rfl, rfl, rfl, h1, h⟩
 exact fnT_sound tys_ok fns_ok noneT_det cFl_ok mixed (rfield_t r h1 h)
end Go.Proofs.Ytajieadpaeggcaa

end
section
set_option linter.unusedVariables false
set_option linter.unusedSimpArgs false
namespace Go.Proofs.Ytajieadpaeggcaa
open Go Go.Av
set_option maxRecDepth 100000
set_option maxHeartbeats 4000000
theorem ffail_t [Syms] {Post : AVal → Heap → Nat → Prop} (r : BR) (x : Int) (hP : Post (.tup []) [(0, rdB (failR r x))] 1) :
 fnT noneT noneT (fnTab fns) (tyTab tys) (plTab plt) 100 27 [.ptr 0 0 0, .int .i64 x] [(0, rdB r)] 1 Post := by
 obtain ⟨b, e⟩ := r
 by_cases h0 : e = 0
 ·subst h0
  rw [failR, if_pos rfl] at hP
  repeat' (first | (refine And.intro ?_ ?_) | (intro h; try first | exact dz | replace h := cv))
  all_goals (try exact cz)
  exact ⟨⟨[], [(0, rdB ⟨b, x⟩)], 1⟩, reb_num [0] (by first | rfl | kernel_rfl) trivial ⟨⟨by decide, _, rfl, .refl _⟩, trivial⟩, _, rfl, hP⟩
 ·rw [failR, if_neg h0] at hP
  repeat' (first | (refine And.intro ?_ ?_) | (intro h; try first | exact dz | replace h := cv))
  all_goals (try exact cz)
  exact ⟨⟨[], [(0, rdB ⟨b, e⟩)], 1⟩, reb_num [0] (by first | rfl | kernel_rfl) trivial ⟨⟨by decide, _, rfl, .refl _⟩, trivial⟩, _, rfl, hP⟩
def S_ffail : SpecT := fun args H nx Post => ∃ (r : BR) (x : Int), args = [.ptr 0 0 0, .int .i64 x] ∧ H = [(0, rdB r)] ∧ nx = 1 ∧ Post (.tup []) [(0, rdB (failR r x))] 1
theorem ffail_ok [Syms] : S_ffail.ok Try.prog 27 := by
 rintro args H nx Post ⟨r, x, rfl, rfl, rfl, h⟩
 exact fnT_sound tys_ok fns_ok noneT_det noneT_ok mixed (ffail_t r x h)
abbrev cFTk : CallT := pickT 27 (specT S_ffail) noneT
theorem cFTk_ok [Syms] : cFTk.ok Try.prog := pickT_spec ffail_ok noneT_ok
theorem ftake_t [Syms] {Post : AVal → Heap → Nat → Prop} (r : BR) (n : Nat) (hl : r.b.length ≤ 1000000) (hn : n ≤ 1000000000) (hP : Post (vB (takeR n r).1) [(0, rdB (takeR n r).2)] 1) :
 fnT noneT cFTk (fnTab fns) (tyTab tys) (plTab plt) 100 54 [.ptr 0 0 0, .int .i64 n] [(0, rdB r)] 1 Post := by
 obtain ⟨b, e⟩ := r
 have hl : b.length ≤ 1000000 := hl
 unfold takeR at hP
 by_cases h1 : b.length < n
 ·simp only [if_pos h1] at hP
  by_cases h0 : e = 0
  ·subst h0
   have hP : Post (vB []) [(0, rdB ⟨b, 8⟩)] 1 := hP
   have hx1 : failR ⟨b, 0⟩ 8 = ⟨b, 8⟩ := rfl
   have hx2 : ¬ (8 : Int) = 0 := by decide
   have hx3 := ren_e b 8
   have hx4 := hx2
   repeat' (first | (refine And.intro ?_ ?_) | (intro h; try first | exact dz | replace h := cv))
   all_goals (try exact cz)
   refine ⟨[0], [.ptr 0 0 0, .int .i64 8], [(0, rdB ⟨b, 0⟩)], rfl, ⟨.refl _, .refl _, trivial⟩, ⟨⟨by decide, _, rfl, .refl _⟩, trivial⟩, ⟨b, 0⟩, 8, rfl, rfl, rfl, ?_⟩
   rw [hx1, show rdB ⟨b, 8⟩ = some (.cells [[vB b, .int .i64 8]] false) from rfl]
   repeat' (first | (refine And.intro ?_ ?_) | (intro h; try first | exact dzi | replace h := cvi))
   all_goals (try exact cz)
   exact ⟨_, reb_none (k := 4) (by first | rfl | kernel_rfl) rfl rfl, _, rfl, hP⟩
  ·have hf : failR ⟨b, e⟩ 8 = ⟨b, e⟩ := if_neg h0
   rw [hf, if_pos h0] at hP
   repeat' (first | (refine And.intro ?_ ?_) | (intro h; try first | exact dz | replace h := cv))
   all_goals (try exact cz)
   refine ⟨[0], [.ptr 0 0 0, .int .i64 8], [(0, rdB ⟨b, e⟩)], rfl, ⟨.refl _, .refl _, trivial⟩, ⟨⟨by decide, _, rfl, .refl _⟩, trivial⟩, ⟨b, e⟩, 8, rfl, rfl, rfl, ?_⟩
   rw [hf, show rdB ⟨b, e⟩ = some (.cells [[vB b, .int .i64 e]] false) from rfl]
   have hx1 := ren_e b e
   have hx2 := hx1
   have hx3 := hx1
   have hx4 := hx1
   repeat' (first | (refine And.intro ?_ ?_) | (intro h; try first | exact dzi | replace h := cvi))
   all_goals (try exact cz)
   exact ⟨_, reb_none (k := 4) (by first | rfl | kernel_rfl) rfl rfl, _, rfl, hP⟩
 ·simp only [if_neg h1] at hP
  by_cases h0 : e = 0
  ·subst h0
   have hP : Post (vB (b.take n)) [(0, rdB ⟨b.drop n, 0⟩)] 1 := hP
   repeat' (first | (refine And.intro ?_ ?_) | (intro h; try first | exact dz | replace h := cv))
   all_goals (try exact cz)
   exact ⟨_, reb_take (k := 4) (b := b) (n := n) (by omega) (by first | rfl | kernel_rfl) rfl rfl, _, rfl, hP⟩
  ·rw [if_pos h0] at hP
   repeat' (first | (refine And.intro ?_ ?_) | (intro h; try first | exact dz | replace h := cv))
   all_goals (try exact cz)
   exact ⟨_, reb_none (k := 4) (by first | rfl | kernel_rfl) rfl rfl, _, rfl, hP⟩
def S_ftake : SpecT := fun args H nx Post => ∃ (r : BR) (n : Nat), args = [.ptr 0 0 0, .int .i64 n] ∧ H = [(0, rdB r)] ∧ nx = 1 ∧ (r.b.length ≤ 1000000 ∧ n ≤ 1000000000) ∧ Post (vB (takeR n r).1) [(0, rdB (takeR n r).2)] 1
theorem ftake_ok [Syms] : S_ftake.ok Try.prog 54 := by
 rintro args H nx Post ⟨r, n, rfl, rfl, rfl, ⟨h1, h2⟩, h⟩
 exact fnT_sound tys_ok fns_ok noneT_det cFTk_ok mixed (ftake_t r n h1 h2 h)
abbrev cFNm : CallT := pickT 79 (immT S_get) (pickT 27 (specT S_ffail) (pickT 54 (specT S_ftake) noneT))
theorem cFNm_ok [Syms] : cFNm.ok Try.prog := pickT_imm_ok get_ok (pickT_spec ffail_ok (pickT_spec ftake_ok noneT_ok))
theorem fnum_t [Syms] {Post : AVal → Heap → Nat → Prop} (r : BR) (most : Nat) (wrong : Int) (hl : r.b.length ≤ 1000000) (hm : most ≤ 2000000) (hw : wrong ≠ 0) (hP : Post (.int .i64 ((numR most wrong r).1 : Nat)) [(0, rdB (numR most wrong r).2)] 1) :
 fnT noneT cFNm (fnTab fns) (tyTab tys) (plTab plt) 100 55 [.ptr 0 0 0, .int .i64 most, .int .i64 wrong] [(0, rdB r)] 1 Post := by
 obtain ⟨b, e⟩ := r
 have hl : b.length ≤ 1000000 := hl
 unfold numR at hP
 by_cases h0 : e = 0
 ·subst h0
  have hk := getV_len b 0 0
  rw [if_neg (by simp)] at hP
  unfold numR1 at hP
  simp only at hP
  repeat' (first | (refine And.intro ?_ ?_) | (intro h; try first | exact dz | replace h := cv))
  all_goals (try exact cz)
  refine ⟨b, rfl, hl, ?_⟩
  rcases hg : getV b 0 0 with ⟨v, k, x⟩
  rw [hg] at hP hk
  simp only at hP hk
  repeat' (first | (refine And.intro ?_ ?_) | (intro h; try first | exact dz | replace h := cv))
  all_goals (try exact cz)
  refine ⟨[0], [.ptr 0 0 0, .int .i64 x], [(0, rdB ⟨b, 0⟩)], rfl, ⟨.refl _, .refl _, trivial⟩, ⟨⟨by decide, _, rfl, .refl _⟩, trivial⟩, ⟨b, 0⟩, x, rfl, rfl, rfl, ?_⟩
  have hf : ∀ y : Int, failR ⟨b, 0⟩ y = ⟨b, y⟩ := fun _ => rfl
  have hq : ∀ y : Int, rdB ⟨b, y⟩ = some (.cells [[vB b, .int .i64 y]] false) := fun _ => rfl
  have hx1 := fun ρ => ren_e2 ρ b
  have hx2 := wrUN (n := most) (by omega)
  by_cases h2 : x = 0 ∧ most < v
  ·obtain ⟨hx0, h2'⟩ := h2
   subst hx0
   rw [hf, if_pos (show (0 : Int) = 0 ∧ most < v from ⟨rfl, h2'⟩), hf, takeR_err (show (BR.mk b wrong).e ≠ 0 from hw), if_pos (show (([] : List UInt8), BR.mk b wrong).2.e ≠ 0 from hw)] at hP
   rw [hf, hq]
   have hx3 := hw
   have hx4 := hw
   repeat' (first | (refine And.intro ?_ ?_) | (intro h; try first | exact dzi | replace h := cvi))
   all_goals (try exact cz)
   refine ⟨[0], [.ptr 0 0 0, .int .i64 wrong], [(0, rdB ⟨b, 0⟩)], rfl, ⟨.refl _, .refl _, trivial⟩, ⟨⟨by decide, _, rfl, .refl _⟩, trivial⟩, ⟨b, 0⟩, wrong, rfl, rfl, rfl, ?_⟩
   rw [hf, hq]
   repeat' (first | (refine And.intro ?_ ?_) | (intro h; try first | exact dzi | replace h := cvi))
   all_goals (try exact cz)
   refine ⟨[0], [.ptr 0 0 0, .int .i64 k], [(0, rdB ⟨b, wrong⟩)], rfl, ⟨.refl _, .refl _, trivial⟩, ⟨⟨by decide, _, rfl, .refl _⟩, trivial⟩, ⟨b, wrong⟩, k, rfl, rfl, rfl, ⟨hl, by omega⟩, ?_⟩
   rw [takeR_err (show (BR.mk b wrong).e ≠ 0 from hw), hq]
   repeat' (first | (refine And.intro ?_ ?_) | (intro h; try first | exact dzi | replace h := cvi))
   all_goals (try exact cz)
   exact ⟨⟨[(6, .int .i64 0)], [(0, rdB ⟨b, wrong⟩)], 1⟩, reb_num [0] (by first | rfl | kernel_rfl) ⟨.refl _, trivial⟩ ⟨⟨by decide, _, rfl, .refl _⟩, trivial⟩, _, rfl, hP⟩
  ·rw [hf, if_neg h2] at hP
   rw [hf, hq]
   by_cases h3 : x = 0
   ·subst h3
    have h4 : v ≤ most := by omega
    have hx4 := wrIN (n := v) (by omega)
    have hx3 := hx4
    repeat' (first | (refine And.intro ?_ ?_) | (intro h; try first | exact dzi | replace h := cvi))
    all_goals (try exact cz)
    refine ⟨[0], [.ptr 0 0 0, .int .i64 k], [(0, rdB ⟨b, 0⟩)], rfl, ⟨.refl _, .refl _, trivial⟩, ⟨⟨by decide, _, rfl, .refl _⟩, trivial⟩, ⟨b, 0⟩, k, rfl, rfl, rfl, ⟨hl, by omega⟩, ?_⟩
    rcases ht : takeR k ⟨b, 0⟩ with ⟨t, b', e'⟩
    rw [ht] at hP
    have hx3 := fun ρ => ren_e2 ρ b' e'
    rw [show rdB (t, BR.mk b' e').2 = some (.cells [[vB b', .int .i64 e']] false) from rfl]
    by_cases h5 : e' = 0
    ·rw [if_neg (show ¬ (t, BR.mk b' e').2.e ≠ 0 from fun h => h h5)] at hP
     repeat' (first | (refine And.intro ?_ ?_) | (intro h; try first | exact dzi | replace h := cvi))
     all_goals (try exact cz)
     refine ⟨⟨[(6, .int .i64 (v : Nat))], [(0, rdB ⟨b', e'⟩)], 1⟩, reb_num [0] (by first | rfl | kernel_rfl) ⟨wk_int hx4, trivial⟩ ⟨⟨by decide, _, rfl, .refl _⟩, trivial⟩, _, rfl, hP⟩
    ·rw [if_pos (show (t, BR.mk b' e').2.e ≠ 0 from h5)] at hP
     repeat' (first | (refine And.intro ?_ ?_) | (intro h; try first | exact dzi | replace h := cvi))
     all_goals (try exact cz)
     exact ⟨⟨[(6, .int .i64 0)], [(0, rdB ⟨b', e'⟩)], 1⟩, reb_num [0] (by first | rfl | kernel_rfl) ⟨.refl _, trivial⟩ ⟨⟨by decide, _, rfl, .refl _⟩, trivial⟩, _, rfl, hP⟩
   ·rw [takeR_err (show (BR.mk b x).e ≠ 0 from h3), if_pos (show (([] : List UInt8), BR.mk b x).2.e ≠ 0 from h3)] at hP
    have hx3 := h3
    have hx4 := h3
    repeat' (first | (refine And.intro ?_ ?_) | (intro h; try first | exact dzi | replace h := cvi))
    all_goals (try exact cz)
    refine ⟨[0], [.ptr 0 0 0, .int .i64 k], [(0, rdB ⟨b, x⟩)], rfl, ⟨.refl _, .refl _, trivial⟩, ⟨⟨by decide, _, rfl, .refl _⟩, trivial⟩, ⟨b, x⟩, k, rfl, rfl, rfl, ⟨hl, by omega⟩, ?_⟩
    rw [takeR_err (show (BR.mk b x).e ≠ 0 from h3), hq]
    repeat' (first | (refine And.intro ?_ ?_) | (intro h; try first | exact dzi | replace h := cvi))
    all_goals (try exact cz)
    exact ⟨⟨[(6, .int .i64 0)], [(0, rdB ⟨b, x⟩)], 1⟩, reb_num [0] (by first | rfl | kernel_rfl) ⟨.refl _, trivial⟩ ⟨⟨by decide, _, rfl, .refl _⟩, trivial⟩, _, rfl, hP⟩
 ·rw [if_pos h0] at hP
  repeat' (first | (refine And.intro ?_ ?_) | (intro h; try first | exact dz | replace h := cv))
  all_goals (try exact cz)
  exact ⟨⟨[(6, .int .i64 0)], [(0, rdB ⟨b, e⟩)], 1⟩, reb_num [0] (by first | rfl | kernel_rfl) ⟨.refl _, trivial⟩ ⟨⟨by decide, _, rfl, .refl _⟩, trivial⟩, _, rfl, hP⟩
def S_fnum : SpecT := fun args H nx Post => ∃ (r : BR) (most : Nat) (wrong : Int), args = [.ptr 0 0 0, .int .i64 most, .int .i64 wrong] ∧ H = [(0, rdB r)] ∧ nx = 1 ∧ (r.b.length ≤ 1000000 ∧ most ≤ 2000000 ∧ wrong ≠ 0) ∧ Post (.int .i64 ((numR most wrong r).1 : Nat)) [(0, rdB (numR most wrong r).2)] 1
theorem fnum_ok [Syms] : S_fnum.ok Try.prog 55 := by
 rintro args H nx Post ⟨r, most, wrong, rfl, rfl, rfl, ⟨h1, h2, h3⟩, h⟩
 exact fnT_sound tys_ok fns_ok noneT_det cFNm_ok mixed (fnum_t r most wrong h1 h2 h3 h)
end Go.Proofs.Ytajieadpaeggcaa

end
section
set_option linter.unusedVariables false
set_option linter.unusedSimpArgs false
namespace Go.Proofs.Ytajieadpaeggcaa
open Go Go.Av
set_option maxRecDepth 100000
set_option maxHeartbeats 4000000
/-- What stands at the loop's head: the reader's block, the fields' own block. -/
def prS (r : BR) (n i : Nat) (fs : List Fd) : St := ⟨[(4, .ptr 0 0 0), (5, .int .i64 n), (6, .slice 1 0 fs.length 4 none), (7, .int .i64 i)], [(0, rdB r), (1, some (.cells (fs.map encF) false))], 2⟩
def prN (r : BR) (n : Nat) : St := ⟨[(4, .ptr 0 0 0), (5, .int .i64 n), (6, .nils), (7, .int .i64 (0 : Nat))], [(0, rdB r)], 1⟩
theorem fieldR_len (r : BR) : (fieldR r).2.b.length ≤ r.b.length := by
 unfold fieldR
 simp only
 exact Nat.le_trans (takeR_len _ _) (Nat.le_trans (numR_len _ _ _) (Nat.le_trans (numR_len _ _ _) (Nat.le_trans (fixR_len _ _) (fixR_len _ _))))
/-- What the fields' loop goes through, from the front. -/
theorem fieldsR_step (k : Nat) (r : BR) (s : List Fd) (h : r.e = 0) : fieldsR (k + 1) r s = fieldsR k (fieldR r).2 (s ++ [(fieldR r).1]) := by
 rw [fieldsR, if_neg (fun x => x h)]
theorem fieldsR_stop (k : Nat) (r : BR) (s : List Fd) (h : r.e ≠ 0) : fieldsR k r s = (s, r) := by
 cases k with
 | zero => rfl
 | succ k => rw [fieldsR, if_pos h]
end Go.Proofs.Ytajieadpaeggcaa

end
