/-
  What a file says of itself, read. The program's. A schema's bytes. The program's. A page, a truth, a value behind bytes. The program's. A chunk behind bytes. The program's.
-/
import Derived.Test.YtajieadpaeggcaaL9
import Derived.Test.YtajieadpaeggcaaL6
import Derived.Test.YtajieadpaeggcaaL4
set_option linter.unusedVariables false
set_option linter.unusedSimpArgs false
section
set_option linter.unusedVariables false
set_option linter.unusedSimpArgs false
namespace Go.Proofs.Ytajieadpaeggcaa
open Go Go.Av
set_option maxRecDepth 100000
set_option maxHeartbeats 4000000
theorem plainR_le (r : BR) : (plainR r).1 ≤ 1048576 := numR_le (by decide) r
theorem pageR_ok (r : BR) : PgOk (pageR r).1 := by
 have h1 := plainR_le r
 have h2 := plainR_le (plainR r).2
 show (0 ≤ (((plainR r).1 : Nat) : Int) ∧ (((plainR r).1 : Nat) : Int) ≤ 1048576) ∧ (0 ≤ (((plainR (plainR r).2).1 : Nat) : Int) ∧ (((plainR (plainR r).2).1 : Nat) : Int) ≤ 1048576)
 omega
theorem pagesR_ok : ∀ (k : Nat) (r : BR) (s : List Pg), (∀ p ∈ s, PgOk p) → (∀ p ∈ (pagesR k r s).1, PgOk p) ∧ (pagesR k r s).1.length ≤ s.length + k
 | 0, r, s, h => ⟨h, Nat.le_refl _⟩
 | k + 1, r, s, h => by
   rw [pagesR]
   split
   ·exact ⟨h, by dsimp only; omega⟩
   ·obtain ⟨h1, h2⟩ := pagesR_ok k (pageR r).2 (s ++ [(pageR r).1]) fun p hp => by
     rcases List.mem_append.1 hp with k | k
     ·exact h p k
     ·rw [List.mem_singleton.1 k]; exact pageR_ok r
    exact ⟨h1, by rw [List.length_append] at h2; simp at h2; omega⟩
theorem chunkR_ok (k : Int) (r : BR) : (∀ p ∈ (chunkR k r).1.pages, PgOk p) ∧ (chunkR k r).1.pages.length ≤ 200 := by
 obtain ⟨h1, h2⟩ := pagesR_ok (numR 200 4 (ckR0 r).2).1 (numR 200 4 (ckR0 r).2).2 [] (fun p hp => nomatch hp)
 have h3 := numR_le (m := 200) (w := 4) (by decide) (ckR0 r).2
 refine ⟨h1, ?_⟩
 show (pagesR (numR 200 4 (ckR0 r).2).1 (numR 200 4 (ckR0 r).2).2 []).1.length ≤ 200
 simp at h2
 omega
theorem chunksR_ok : ∀ (ks : List Int) (r : BR) (s : List Ck), (∀ c ∈ s, (∀ p ∈ c.pages, PgOk p) ∧ c.pages.length ≤ 200) → (∀ c ∈ (chunksR ks r s).1, (∀ p ∈ c.pages, PgOk p) ∧ c.pages.length ≤ 200) ∧ (chunksR ks r s).1.length ≤ s.length + ks.length
 | [], r, s, h => ⟨h, Nat.le_refl _⟩
 | k :: ks, r, s, h => by
   rw [chunksR]
   split
   ·exact ⟨h, by dsimp only; omega⟩
   ·obtain ⟨h1, h2⟩ := chunksR_ok ks (chunkR k r).2 (s ++ [(chunkR k r).1]) fun p hp => by
     rcases List.mem_append.1 hp with j | j
     ·exact h p j
     ·rw [List.mem_singleton.1 j]; exact chunkR_ok k r
    exact ⟨h1, by rw [List.length_append] at h2; simp at h2 ⊢; omega⟩
theorem groupR_ok (ks : List Int) (r : BR) : RwOk ks.length (groupR ks r).1 := by
 obtain ⟨h1, h2⟩ := chunksR_ok ks (plainR r).2 [] (fun p hp => nomatch hp)
 have h3 := plainR_le r
 refine ⟨?_, ?_, h1⟩
 ·show 0 ≤ (((plainR r).1 : Nat) : Int) ∧ (((plainR r).1 : Nat) : Int) ≤ 1048576; omega
 ·show (chunksR ks (plainR r).2 []).1.length ≤ ks.length
  simpa using h2
theorem groupsR_ok (ks : List Int) : ∀ (k : Nat) (r : BR) (s : List Rw), (∀ g ∈ s, RwOk ks.length g) → (∀ g ∈ (groupsR ks k r s).1, RwOk ks.length g) ∧ (groupsR ks k r s).1.length ≤ s.length + k
 | 0, r, s, h => ⟨h, Nat.le_refl _⟩
 | k + 1, r, s, h => by
   rw [groupsR]
   split
   ·exact ⟨h, by dsimp only; omega⟩
   ·obtain ⟨h1, h2⟩ := groupsR_ok ks k (groupR ks r).2 (s ++ [(groupR ks r).1]) fun p hp => by
     rcases List.mem_append.1 hp with j | j
     ·exact h p j
     ·rw [List.mem_singleton.1 j]; exact groupR_ok ks r
    exact ⟨h1, by rw [List.length_append] at h2; simp at h2; omega⟩
theorem metaR_ok (r : BR) : MtOk (metaR r).1 := by
 unfold metaR
 dsimp only
 split
 ·exact ⟨FdsOk.fs (fs := []) (fun f hf => nomatch hf) (Nat.zero_le _), Nat.zero_le _, fun g hg => nomatch hg⟩
 ·generalize (takeR (numR 2000 5 r).1 (numR 2000 5 r).2) = y
  obtain ⟨h1, h2⟩ := parseSF_ok y.1
  have h4 := numR_le (m := 200) (w := 4) (by decide) (plainR (failR y.2 (parseSF y.1).2)).2
  obtain ⟨h5, h6⟩ := groupsR_ok (kindsF (parseSF y.1).1) (numR 200 4 (plainR (failR y.2 (parseSF y.1).2)).2).1 (numR 200 4 (plainR (failR y.2 (parseSF y.1).2)).2).2 [] (fun p hp => nomatch hp)
  refine ⟨h1.fs h2, ?_, fun g hg => ?_⟩
  ·simp at h6; show (groupsR _ _ _ _).1.length ≤ 200; omega
  ·have := h5 g hg
   rwa [show (kindsF (parseSF y.1).1).length = (leavesF (parseSF y.1).1).length from List.length_map ..] at this
abbrev cFpa : CallT := pickT 26 (specT S_fmeta) (pickT 27 (specT S_ffail) (pickT 28 (immT S_whole) noneT))
theorem cFpa_ok [Syms] : cFpa.ok Try.prog := pickT_spec fmeta_ok (pickT_spec ffail_ok (pickT_imm_ok whole_ok noneT_ok))
noncomputable def plFp : Nat → Nat → Pl := plAdd [(15, 1), (15, 2), (15, 8)] (plTab plt)
def fpS (r : BR) (m : Mt) : St := ⟨[(2, .ptr 1 0 0), (3, .int .i64 0), (4, .ptr 0 0 0), (5, .ptr 2 0 0)], [(0, rdB r), (1, some (.cells [rowM .nils 0 .nils] false)), (2, some (.cells [encM m] false))], 3⟩
theorem fin_fp [Syms] {Post : AVal → Heap → Nat → Prop} {N nx : Nat} {x : Int} {e : Env} {H : Heap} {row : List AVal} {m : Mt} {p : Mt × Int} {rs : List ResultVar} (h2 : e.get 2 = .ptr 1 0 0) (h3 : e.get 3 = .int .i64 x) (H1 : H.get 1 = some (.cells [row] false)) (hrow : WkVs row (encM m)) (hn : NumsOk 0 nx [0, 1] = true) (hp : p = (m, x))
 (hrs : resultsA (tyTab tys) ⟨[(2, .ptr 1 0 0), (3, .int .i64 x)], [(1, some (.cells [encM m] false))], 2⟩ rs = some (.tup [.agg (encM m), .int .i64 x])) (hP : Post (.tup [.agg (encM p.1), .int .i64 p.2]) [] 2) :
 ∃ s3, Reb 0 N ⟨e, H, nx⟩ s3 ∧ ∃ v, resultsA (tyTab tys) s3 rs = some v ∧ subP Post v s3.heap s3.nx := by
 subst hp
 exact ⟨⟨[(2, .ptr 1 0 0), (3, .int .i64 x)], [(1, some (.cells [encM m] false))], 2⟩, reb_num [0, 1] hn ⟨by rw [h2]; exact .refl _, by rw [h3]; exact .refl _, trivial⟩ ⟨⟨Nat.lt_succ_self _, _, H1, wkB_row hrow (eM m)⟩, trivial⟩, _, hrs, [], fun n b h => (by rw [Heap.get_nil] at h; cases h), hP⟩
def fpZ (x : Int) : St := ⟨[(2, .ptr 1 0 0), (3, .int .i64 x)], [(1, some (.cells [encM mt0] false))], 2⟩
theorem fpz_reb [Syms] {N nx : Nat} {e : Env} {H : Heap} {x x' : Int} (h2 : e.get 2 = .ptr 1 0 0) (h3 : e.get 3 = .int .i64 x') (hx : x' = x) (H1 : H.get 1 = some (.cells [[.nils, .int .i64 0, .nils]] false)) (hn : NumsOk 0 nx [0, 1] = true) : Reb 0 N ⟨e, H, nx⟩ (fpZ x) := by
 subst hx
 exact reb_num [0, 1] hn ⟨by rw [h2]; exact .refl _, by rw [h3]; exact .refl _, trivial⟩ ⟨⟨Nat.lt_succ_self _, _, H1, wkB_row (row := encM mt0) ⟨.zero _ _ rfl, .refl _, .zero _ _ rfl, trivial⟩ (eM mt0)⟩, trivial⟩
/-- What is answered, of what was read and the reader. -/
def finMF (q : Mt × BR) : Mt × Int :=
 let r1 := if q.2.b ≠ [] then failR q.2 9 else q.2
 let r2 := if r1.e = 0 ∧ wholeF q.1 = false then failR r1 10 else r1
 if r2.e ≠ 0 then (mt0, r2.e) else (q.1, 0)
theorem finMF_eq {m : Mt} {r r1 r2 : BR} (h1 : (if r.b ≠ [] then failR r 9 else r) = r1) (h2 : (if r1.e = 0 ∧ wholeF m = false then failR r1 10 else r1) = r2) : finMF (m, r) = if r2.e ≠ 0 then (mt0, r2.e) else (m, 0) := by subst h1 h2; rfl
theorem finMF_bad {m : Mt} {b : List UInt8} {e : Int} (h : e ≠ 0) : finMF (m, ⟨b, e⟩) = (mt0, e) := by
 have hf : failR ⟨b, e⟩ 9 = ⟨b, e⟩ := if_neg h
 have he : (if b ≠ [] then failR ⟨b, e⟩ 9 else ⟨b, e⟩) = ⟨b, e⟩ := by rw [hf]; split <;> rfl
 exact (finMF_eq he (if_neg (fun hh => h hh.1))).trans (if_pos h)
theorem finMF_more {m : Mt} {b : List UInt8} (h : b ≠ []) : finMF (m, ⟨b, 0⟩) = (mt0, 9) :=
 (finMF_eq (r1 := ⟨b, 9⟩) (r2 := ⟨b, 9⟩) (if_pos h) (if_neg (fun hh => absurd (show (9 : Int) = 0 from hh.1) (by decide)))).trans (if_pos (show (9 : Int) ≠ 0 by decide))
theorem finMF_end {m : Mt} : finMF (m, ⟨[], 0⟩) = if wholeF m = false then (mt0, 10) else (m, 0) := by
 unfold finMF
 cases h : wholeF m <;> simp [h, failR]
theorem fparse_t [Syms] {Post : AVal → Heap → Nat → Prop} (b : List UInt8) (hl : b.length ≤ 1000000) (p : Mt × Int) (hp : p = parseMF b) (hP : Post (.tup [.agg (encM p.1), .int .i64 p.2]) [] 2) :
 fnT noneT cFpa (fnTab fns) (tyTab tys) plFp 100 15 [vB b] [] 0 (subP Post) := by
 repeat' (first | (refine And.intro ?_ ?_) | (intro h; try first | exact dz | replace h := cv))
 all_goals (try exact cz)
 refine ⟨⟨[(2, .ptr 1 0 0), (3, .int .i64 0), (4, .ptr 0 0 0)], [(0, rdB ⟨b, 0⟩), (1, some (.cells [rowM .nils 0 .nils] false))], 2⟩, reb_num [1, 0] (by exact rfl) ⟨.refl _, .refl _, .refl _, trivial⟩ ⟨⟨by decide, _, rfl, .refl _⟩, ⟨by decide, _, rfl, .refl _⟩, trivial⟩, ?_⟩
 refine ⟨[0], [.ptr 0 0 0], [(0, rdB ⟨b, 0⟩)], rfl, ⟨.refl _, trivial⟩, ⟨⟨by decide, _, rfl, .refl _⟩, trivial⟩, ⟨b, 0⟩, rfl, rfl, rfl, hl, ?_⟩
 have hok := metaR_ok ⟨b, 0⟩
 have hp : p = finMF (metaR ⟨b, 0⟩) := hp
 generalize metaR ⟨b, 0⟩ = q at *
 obtain ⟨m, b', e'⟩ := q
 dsimp only at hok
 repeat' (first | (refine And.intro ?_ ?_) | (intro h; try first | exact dz | replace h := cv))
 all_goals (try exact cz)
 refine ⟨fpS ⟨b', e'⟩ m, reb_num [0, 1, 4] (by exact rfl) ⟨.refl _, .refl _, .refl _, .refl _, trivial⟩ ⟨⟨by decide, _, rfl, .refl _⟩, ⟨by decide, _, rfl, .refl _⟩, ⟨by decide, _, rfl, wkB_row (row := encM m) ⟨.refl _, .refl _, .refl _, trivial⟩ (eM _)⟩, trivial⟩, ?_⟩
 by_cases hb : b' = []
 ·subst hb
  by_cases he : e' = 0
  ·subst he
   rw [finMF_end] at hp
   cases hw : wholeF m
   ·rw [if_pos hw] at hp
    repeat' (first | (refine And.intro ?_ ?_) | (intro h; try first | exact dzq | replace h := cvq))
    all_goals (try exact cz)
    refine ⟨m, rfl, hok, ?_⟩
    have hx1 := hw
    have hx2 := hw
    have hx3 := hw
    have hx4 := hw
    repeat' (first | (refine And.intro ?_ ?_) | (intro h; try first | exact dzqi | replace h := cvqi))
    all_goals (try exact cz)
    refine ⟨[0], [.ptr 0 0 0, .int .i64 10], [(0, rdB ⟨[], 0⟩)], rfl, ⟨.refl _, .refl _, trivial⟩, ⟨⟨by decide, _, rfl, .refl _⟩, trivial⟩, ⟨[], 0⟩, 10, rfl, rfl, rfl, ?_⟩
    rw [show failR ⟨[], 0⟩ 10 = ⟨[], 10⟩ from rfl, show rdB ⟨[], 10⟩ = some (.cells [[vB [], .int .i64 10]] false) from rfl]
    have hx1 := fun ρ => ren_e2 ρ ([]) (10)
    have hx2 := hx1
    have hx3 := hx1
    have hx4 := hx1
    repeat' (first | (refine And.intro ?_ ?_) | (intro h; try first | exact dzqi | replace h := cvqi))
    all_goals (try exact cz)
    refine ⟨fpZ (10), ?_, ?_⟩
    ·repeat' (first | (refine And.intro ?_ ?_) | (intro h; try first | exact dzqi | replace h := cvqi))
     all_goals (try exact cz)
     all_goals exact Exists.intro () (fpz_reb rfl rfl rfl rfl (by exact rfl))
    ·exact fin_fp (row := encM mt0) (m := mt0) rfl rfl rfl ⟨.refl _, .refl _, .refl _, trivial⟩ (by exact rfl) hp (by exact rfl) hP
   ·rw [if_neg (by rw [hw]; decide)] at hp
    repeat' (first | (refine And.intro ?_ ?_) | (intro h; try first | exact dzq | replace h := cvq))
    all_goals (try exact cz)
    refine ⟨m, rfl, hok, ?_⟩
    have hx1 := hw
    have hx2 := hw
    have hx3 := hw
    have hx4 := hw
    repeat' (first | (refine And.intro ?_ ?_) | (intro h; try first | exact dzqi | replace h := cvqi))
    all_goals (try exact cz)
    exact fin_fp (row := encM m) (m := m) rfl rfl rfl ⟨.refl _, .refl _, .refl _, trivial⟩ (by exact rfl) hp (by exact rfl) hP
  ·rw [finMF_bad he] at hp
   repeat' (first | (refine And.intro ?_ ?_) | (intro h; try first | exact dzq | replace h := cvq))
   all_goals (try exact cz)
   have hx1 := he
   have hx2 := he
   have hx3 := he
   have hx4 := he
   refine ⟨fpZ (e'), ?_, ?_⟩
   ·repeat' (first | (refine And.intro ?_ ?_) | (intro h; try first | exact dzqi | replace h := cvqi))
    all_goals (try exact cz)
    all_goals exact Exists.intro () (fpz_reb rfl rfl rfl rfl (by exact rfl))
   ·exact fin_fp (row := encM mt0) (m := mt0) rfl rfl rfl ⟨.refl _, .refl _, .refl _, trivial⟩ (by exact rfl) hp (by exact rfl) hP
 ·have hbl := List.length_pos_iff.2 hb
  repeat' (first | (refine And.intro ?_ ?_) | (intro h; try first | exact dzq | replace h := cvq))
  all_goals (try exact cz)
  refine ⟨[0], [.ptr 0 0 0, .int .i64 9], [(0, rdB ⟨b', e'⟩)], rfl, ⟨.refl _, .refl _, trivial⟩, ⟨⟨by decide, _, rfl, .refl _⟩, trivial⟩, ⟨b', e'⟩, 9, rfl, rfl, rfl, ?_⟩
  by_cases he : e' = 0
  ·subst he
   rw [finMF_more hb] at hp
   rw [show failR ⟨b', 0⟩ 9 = ⟨b', 9⟩ from rfl, show rdB ⟨b', 9⟩ = some (.cells [[vB b', .int .i64 9]] false) from rfl]
   have hx1 := fun ρ => ren_e2 ρ (b') (9)
   have hx2 := hx1
   have hx3 := hx1
   have hx4 := hx1
   repeat' (first | (refine And.intro ?_ ?_) | (intro h; try first | exact dzqi | replace h := cvqi))
   all_goals (try exact cz)
   refine ⟨fpZ (9), ?_, ?_⟩
   ·repeat' (first | (refine And.intro ?_ ?_) | (intro h; try first | exact dzqi | replace h := cvqi))
    all_goals (try exact cz)
    all_goals exact Exists.intro () (fpz_reb rfl rfl rfl rfl (by exact rfl))
   ·exact fin_fp (row := encM mt0) (m := mt0) rfl rfl rfl ⟨.refl _, .refl _, .refl _, trivial⟩ (by exact rfl) hp (by exact rfl) hP
  ·rw [finMF_bad he] at hp
   rw [show failR ⟨b', e'⟩ 9 = ⟨b', e'⟩ from if_neg he, show rdB ⟨b', e'⟩ = some (.cells [[vB b', .int .i64 e']] false) from rfl]
   have hx1 := fun ρ => ren_e2 ρ (b') (e')
   have hx2 := hx1
   have hx3 := hx1
   have hx4 := hx1
   repeat' (first | (refine And.intro ?_ ?_) | (intro h; try first | exact dzqi | replace h := cvqi))
   all_goals (try exact cz)
   refine ⟨fpZ (e'), ?_, ?_⟩
   ·repeat' (first | (refine And.intro ?_ ?_) | (intro h; try first | exact dzqi | replace h := cvqi))
    all_goals (try exact cz)
    all_goals exact Exists.intro () (fpz_reb rfl rfl rfl rfl (by exact rfl))
   ·exact fin_fp (row := encM mt0) (m := mt0) rfl rfl rfl ⟨.refl _, .refl _, .refl _, trivial⟩ (by exact rfl) hp (by exact rfl) hP
def S_fparse : SpecT := fun args H nx Post => ∃ b, args = [vB b] ∧ H = [] ∧ nx = 0 ∧ b.length ≤ 1000000 ∧ Post (.tup [.agg (encM (parseMF b).1), .int .i64 (parseMF b).2]) [] 2
theorem fparse_ok [Syms] : S_fparse.ok Try.prog 15 := by
 rintro args H nx Post ⟨b, rfl, rfl, rfl, h1, h⟩
 exact FnSem.forget (fnT_sound tys_ok fns_ok noneT_det cFpa_ok mixed (fparse_t b h1 _ rfl h))
end Go.Proofs.Ytajieadpaeggcaa

end
section
set_option linter.unusedVariables false
set_option linter.unusedSimpArgs false
namespace Go.Proofs.Ytajieadpaeggcaa
open Go Go.Av
set_option maxRecDepth 100000
set_option maxHeartbeats 4000000
abbrev cSB : CallT := pickT 71 (ownT S_put) (pickT 72 (ownT S_cput) noneT)
theorem cSB_det [Syms] : cSB.det Try.prog := pickT_own put_ok (pickT_own cput_ok noneT_det)
theorem cSB_ok [Syms] : cSB.ok Try.prog := cSB_det.ok
def sbS (s : List Fd) (o : List UInt8) (i : Nat) : St := ⟨[(3, .slice 0 0 o.length 1 none), (10, vF s), (11, .int .i64 s.length), (12, .int .i64 i)], [(0, some (.cells (o.map encB) false))], 1⟩
theorem sbL_app : ∀ (l m : List Fd), sbL (l ++ m) = sbL l ++ sbL m
 | [], m => rfl
 | x :: l, m => by rw [List.cons_append, sbL, sbL, sbL_app l m, List.append_assoc]
theorem sbL_take {s : List Fd} {i : Nat} (h : i < s.length) : sbL (s.take (i + 1)) = sbL (s.take i) ++ sbF1 (s.getD i default) := by
 rw [List.take_add_one, sbL_app, List.getD_eq_getElem?_getD, List.getElem?_eq_getElem h]
 simp [sbL]
theorem sbL_le (s : List Fd) (i : Nat) : (sbL (s.take i)).length ≤ (sbL s).length := by
 have : sbL s = sbL (s.take i) ++ sbL (s.drop i) := by rw [← sbL_app, List.take_append_drop]
 rw [this, List.length_append]; omega
theorem fin_sb [Syms] {N K nx i : Nat} {s : List Fd} {o : List UInt8} {rows : List (List AVal)} {len : Nat} {env : Env} {H : Heap} (hn : NumsOk 0 nx [K] = true) (e3 : env.get 3 = .slice K 0 len 1 none) (e10 : env.get 10 = vF s) (e11 : env.get 11 = .int .i64 s.length) (e12 : env.get 12 = .int .i64 ((i : Int) + 1))
 (hb : H.get K = some (.cells rows false)) (hr : rows = o.map encB) (hl : len = o.length) : Reb 0 N ⟨env, H, nx⟩ (sbS s o (i + 1)) :=
 reb_num [K] hn ⟨by rw [e3]; exact wk_slc hl, by rw [e10]; exact .refl _, by rw [e11]; exact .refl _, by rw [e12]; exact wk_int (by omega), trivial⟩ ⟨⟨show 0 < 1 by decide, _, hb, wkB_eq hr (fB _)⟩, trivial⟩
theorem sbytes_t [Syms] (s : List Fd) (hl : (sbF s).length ≤ 1000000) (hl2 : s.length ≤ 100000) (hk : ∀ f ∈ s, (0 ≤ f.rep ∧ f.rep < 256) ∧ (0 ≤ f.kind ∧ f.kind < 256) ∧ 0 ≤ f.kids ∧ f.kids < 1000000) :
 fnT cSB cSB (fnTab fns) (tyTab tys) (plTab plt) 100 42 [vF s] [] 0 (ownP (sbF s)) := by
 have hw : wr .u64 (s.length : Int) = ((s.length : Nat) : Int) := wrU (by omega)
 have hlF : (sbF s).length = (varB s.length).length + (sbL s).length := by rw [sbF, List.length_append]
 refine ⟨[vB [], .int .u64 (wr .u64 (s.length : Int))], ⟨.nil _ encB 0, .imm _ rfl, trivial⟩, [], s.length, congrArg (fun z => [vB [], AVal.int .u64 z]) hw, by simp, by omega, ?_⟩
 refine ⟨fun m t => ∃ i : Nat, (i ≤ s.length ∧ m = s.length - i) ∧ t = sbS s (varB s.length ++ sbL (s.take i)) i, ⟨_, sbS s (varB s.length ++ sbL (s.take 0)) 0, reb_num [0] rfl ⟨wk_slc (by simp [sbL]), .refl _, .refl _, wk_int (by rfl), trivial⟩ ⟨⟨by decide, _, rfl, wkB_eq ?_ (fB _)⟩, trivial⟩, 0, ⟨by omega, rfl⟩, rfl⟩, ?_⟩
 ·rw [List.take_zero, sbL, List.append_nil]; rfl
 rintro m t ⟨i, ⟨hi, rfl⟩, rfl⟩
 have hli := sbL_le s i
 by_cases h1 : i < s.length
 ·have hst := sbL_take h1
  have hli1 := sbL_le s (i + 1)
  obtain ⟨⟨hr0, hr1⟩, ⟨hk0, hk1⟩, hc0, hc1⟩ : (0 ≤ (s.getD i default).rep ∧ (s.getD i default).rep < 256) ∧ (0 ≤ (s.getD i default).kind ∧ (s.getD i default).kind < 256) ∧ 0 ≤ (s.getD i default).kids ∧ (s.getD i default).kids < 1000000 := by
   rw [List.getD_eq_getElem?_getD, List.getElem?_eq_getElem h1]; exact hk _ (List.getElem_mem h1)
  have hwr : wr .u64 (s.getD i default).rep = (((s.getD i default).rep.toNat : Nat) : Int) := wrU (by omega)
  have hwk : wr .u64 (s.getD i default).kind = (((s.getD i default).kind.toNat : Nat) : Int) := wrU (by omega)
  have hwc : wr .u64 (s.getD i default).kids = (((s.getD i default).kids.toNat : Nat) : Int) := wrU (by omega)
  have hL : (sbF1 (s.getD i default)).length = 1 + (1 + ((varB (s.getD i default).kids.toNat).length + ((varB (s.getD i default).name.length).length + (s.getD i default).name.length))) := by
   simp only [sbF1, List.length_append, leB_len]
  have hT : (varB s.length ++ sbL (s.take i)).length + (sbF1 (s.getD i default)).length ≤ 1000000 := by
   rw [hst, List.length_append] at hli1
   rw [List.length_append]; omega
  have hwn : wr .u64 ((s.getD i default).name.length : Int) = (((s.getD i default).name.length : Nat) : Int) := wrU (by omega)
  have hend : varB s.length ++ sbL (s.take (i + 1)) = (varB s.length ++ sbL (s.take i)) ++ leB 1 (s.getD i default).rep.toNat ++ leB 1 (s.getD i default).kind.toNat ++ varB (s.getD i default).kids.toNat ++ varB (s.getD i default).name.length ++ (s.getD i default).name := by
   rw [hst, sbF1]; simp only [List.append_assoc]
  clear hli1 hst hli
  generalize varB s.length ++ sbL (s.take i) = o at *
  repeat' (first | (refine And.intro ?_ ?_) | (intro h; try first | exact dz | replace h := cv))
  all_goals (try exact cz)
  refine ⟨[vB o, .int .i64 ((1 : Nat) : Int), .int .u64 (wr .u64 (s.getD i default).rep)], ⟨.byt rfl rfl rfl, .imm _ rfl, .imm _ rfl, trivial⟩, o, 1, (s.getD i default).rep.toNat, congrArg (fun z => [vB o, .int .i64 ((1 : Nat) : Int), AVal.int .u64 z]) hwr, by omega, by omega, ?_⟩
  repeat' (first | (refine And.intro ?_ ?_) | (intro h; try first | exact dz | replace h := cv))
  all_goals (try exact cz)
  refine ⟨[vB (o ++ leB 1 (s.getD i default).rep.toNat), .int .i64 ((1 : Nat) : Int), .int .u64 (wr .u64 (s.getD i default).kind)], ⟨.byt rfl rfl rfl, .imm _ rfl, .imm _ rfl, trivial⟩, o ++ leB 1 (s.getD i default).rep.toNat, 1, (s.getD i default).kind.toNat, congrArg (fun z => [vB (o ++ leB 1 (s.getD i default).rep.toNat), .int .i64 ((1 : Nat) : Int), AVal.int .u64 z]) hwk, by simp only [List.length_append, leB_len]; omega, by omega, ?_⟩
  repeat' (first | (refine And.intro ?_ ?_) | (intro h; try first | exact dz | replace h := cv))
  all_goals (try exact cz)
  have hl1 : (leB 1 (s.getD i default).rep.toNat).length = 1 := leB_len _ _
  have hl2 : (leB 1 (s.getD i default).kind.toNat).length = 1 := leB_len _ _
  generalize ho2 : o ++ leB 1 (s.getD i default).rep.toNat ++ leB 1 (s.getD i default).kind.toNat = o2 at *
  have hL2 : o2.length = o.length + 1 + 1 := by rw [← ho2, List.length_append, List.length_append, hl1, hl2]
  refine ⟨[vB o2, .int .u64 (wr .u64 (s.getD i default).kids)], ⟨.byt rfl rfl rfl, .imm _ rfl, trivial⟩, o2, (s.getD i default).kids.toNat, congrArg (fun z => [vB o2, AVal.int .u64 z]) hwc, by omega, by omega, ?_⟩
  repeat' (first | (refine And.intro ?_ ?_) | (intro h; try first | exact dz | replace h := cv))
  all_goals (try exact cz)
  refine ⟨[vB (o2 ++ varB (s.getD i default).kids.toNat), .int .u64 (wr .u64 ((s.getD i default).name.length : Int))], ⟨.byt rfl rfl rfl, .imm _ rfl, trivial⟩, o2 ++ varB (s.getD i default).kids.toNat, (s.getD i default).name.length, congrArg (fun z => [vB (o2 ++ varB (s.getD i default).kids.toNat), AVal.int .u64 z]) hwn, by rw [List.length_append]; omega, by omega, ?_⟩
  repeat' (first | (refine And.intro ?_ ?_) | (intro h; try first | exact dz | replace h := cv))
  all_goals (try exact cz)
  ·show allLen 1 ((s.getD i default).name.map encB) = true
   exact allLen_map (enc := encB) (z := 1) (fun _ => rfl) _
  ·show ((o2 ++ varB (s.getD i default).kids.toNat ++ varB (s.getD i default).name.length).length + ((s.getD i default).name.map encB).length) * 1 ≤ _
   rw [List.length_map, List.length_append, List.length_append]; omega
  ·show ((o2 ++ varB (s.getD i default).kids.toNat ++ varB (s.getD i default).name.length).length + ((s.getD i default).name.map encB).length) ≤ _
   rw [List.length_map, List.length_append, List.length_append]; omega
  ·have hnm : (s.getD i default).name = [] := by
    have h0 : (s.getD i default).name.length = 0 := h
    exact List.eq_nil_of_length_eq_zero h0
   refine ⟨_, _, fin_sb (K := 1 + 1 + 1 + 8 * RR + 1 + 9 * RR) (by kernel_rfl) rfl rfl rfl rfl rfl rfl rfl, ⟨i + 1, ⟨by omega, rfl⟩, congrArg (fun o => sbS s o (i + 1)) (hend.trans (by rw [hnm, List.append_nil])).symm⟩, by omega⟩
  ·refine ⟨_, _, fin_sb (K := 1 + 1 + 1 + 8 * RR + 1 + 9 * RR + 1) (by kernel_rfl) rfl rfl rfl rfl rfl ?_ ?_, ⟨i + 1, ⟨by omega, rfl⟩, congrArg (fun o => sbS s o (i + 1)) hend.symm⟩, by omega⟩
   ·show List.take (o2 ++ varB (s.getD i default).kids.toNat ++ varB (s.getD i default).name.length).length (List.drop 0 ((o2 ++ varB (s.getD i default).kids.toNat ++ varB (s.getD i default).name.length).map encB)) ++ (s.getD i default).name.map encB = _
    rw [List.drop_zero, List.take_of_length_le (by simp), ← List.map_append]
   ·show (o2 ++ varB (s.getD i default).kids.toNat ++ varB (s.getD i default).name.length).length + ((s.getD i default).name.map encB).length = _
    rw [List.length_map, ← List.length_append]
 ·obtain rfl : i = s.length := by omega
  rw [List.take_length]
  have ho : varB s.length ++ sbL s = sbF s := rfl
  have hpos := putV_pos 9 s.length
  have hnz : 0 < (sbF s).length := by rw [hlF]; exact Nat.lt_of_lt_of_le hpos (Nat.le_add_right _ _)
  rw [ho]
  generalize sbF s = o at *
  repeat' (first | (refine And.intro ?_ ?_) | (intro h; try first | exact dz | replace h := cv))
  all_goals (try exact cz)
  ·show allLen 1 (List.take o.length (List.drop 0 (o.map encB))) = true
   rw [List.drop_zero, List.take_of_length_le (by simp)]; exact allLen_map (enc := encB) (z := 1) (fun _ => rfl) _
  ·refine ⟨_, reb_own1 (k := 2) (l := o) rfl rfl rfl ?_ ?_, _, rfl, own_eq rfl⟩
   ·show List.take o.length (List.drop 0 (o.map encB)) = _
    rw [List.drop_zero, List.take_of_length_le (by simp)]
   ·rfl
def S_sbytes : SpecY := fun args K => ∃ s, args = [vF s] ∧ ((sbF s).length ≤ 1000000 ∧ s.length ≤ 100000 ∧ ∀ f ∈ s, (0 ≤ f.rep ∧ f.rep < 256) ∧ (0 ≤ f.kind ∧ f.kind < 256) ∧ 0 ≤ f.kids ∧ f.kids < 1000000) ∧ K (sbF s)
theorem sbytes_ok [Syms] : BytOk Try.prog 42 S_sbytes := by
 rintro args K ⟨s, rfl, ⟨h1, h2, h3⟩, hk⟩
 exact ⟨_, hk, fnT_sound tys_ok fns_ok cSB_det cSB_ok mixed (sbytes_t s h1 h2 h3)⟩
end Go.Proofs.Ytajieadpaeggcaa

end
section
set_option linter.unusedVariables false
set_option linter.unusedSimpArgs false
namespace Go.Proofs.Ytajieadpaeggcaa
open Go Go.Av
set_option maxRecDepth 100000
set_option maxHeartbeats 4000000
def NumOk (x : Int) : Prop := 0 ≤ x ∧ x < 128 ^ 9
def CrcOk (x : Int) : Prop := 0 ≤ x ∧ x < 4294967296
structure PgB (p : Pg) : Prop where
 n1 : NumOk p.rows
 n2 : NumOk p.cells
 n3 : NumOk p.enc
 n4 : NumOk p.rlen
 n5 : NumOk p.dlen
 n6 : NumOk p.vlen
 crc : CrcOk p.crc
theorem wrC {x : Int} (h : CrcOk x) : wr .u64 x = ((x.toNat : Nat) : Int) := wrU ⟨h.1, by have := h.2; omega⟩
abbrev cPg : CallT := pickT 43 (ownT S_nums) (pickT 72 (ownT S_cput) noneT)
theorem cPg_det [Syms] : cPg.det Try.prog := pickT_own nums_ok (pickT_own cput_ok noneT_det)
theorem page_t [Syms] (b : List UInt8) (p : Pg) (hp : PgB p) (hl : b.length + (pgB p).length ≤ 1000000) :
 fnT cPg cPg (fnTab fns) (tyTab tys) (plTab plt) 100 75 [vB b, .agg (encP p)] [] 0 (ownP (b ++ pgB p)) := by
 have hl2 : (pgB p).length = (nuB [p.rows, p.cells, p.enc, p.rlen, p.dlen, p.vlen]).length + 4 := by rw [pgB, List.length_append, leB_len]
 have hw := wrC hp.crc
 repeat' (first | (refine And.intro ?_ ?_) | (intro h; try first | exact dzq | replace h := cvq))
 all_goals (try exact cz)
 refine ⟨[vB b, vI [p.rows, p.cells, p.enc, p.rlen, p.dlen, p.vlen]], ⟨.imm _ rfl, .ints rfl rfl rfl, trivial⟩, b, [p.rows, p.cells, p.enc, p.rlen, p.dlen, p.vlen], rfl, by omega, ⟨?_, by simp, by simp⟩, ?_⟩
 ·intro x hx
  simp at hx
  rcases hx with rfl | rfl | rfl | rfl | rfl | rfl <;> first | exact hp.n1 | exact hp.n2 | exact hp.n3 | exact hp.n4 | exact hp.n5 | exact hp.n6
 have hO : b ++ nuB [p.rows, p.cells, p.enc, p.rlen, p.dlen, p.vlen] ++ leB 4 p.crc.toNat = b ++ pgB p := by rw [pgB, List.append_assoc]
 have hl3 : (b ++ nuB [p.rows, p.cells, p.enc, p.rlen, p.dlen, p.vlen]).length ≤ 1000000 := by rw [List.length_append]; omega
 generalize b ++ nuB [p.rows, p.cells, p.enc, p.rlen, p.dlen, p.vlen] = o at *
 repeat' (first | (refine And.intro ?_ ?_) | (intro h; try first | exact dzq | replace h := cvq))
 all_goals (try exact cz)
 refine ⟨[vB o, .int .i64 ((4 : Nat) : Int), .int .u64 (wr .u64 p.crc)], ⟨.byt rfl rfl rfl, .imm _ rfl, .imm _ rfl, trivial⟩, o, 4, p.crc.toNat, congrArg (fun z => [vB o, .int .i64 ((4 : Nat) : Int), AVal.int .u64 z]) hw, hl3, by omega, ?_⟩
 repeat' (first | (refine And.intro ?_ ?_) | (intro h; try first | exact dzq | replace h := cvq))
 all_goals (try exact cz)
 exact ⟨_, reb_own1 (k := 4) (l := o ++ leB 4 p.crc.toNat) (by exact rfl) rfl rfl rfl rfl, _, rfl, own_eq hO⟩
def S_page : SpecY := fun args K => ∃ b p, args = [vB b, .agg (encP p)] ∧ (PgB p ∧ b.length + (pgB p).length ≤ 1000000) ∧ K (b ++ pgB p)
theorem page_ok [Syms] : BytOk Try.prog 75 S_page := by
 rintro args K ⟨b, p, rfl, ⟨h1, h2⟩, hk⟩
 exact ⟨_, hk, fnT_sound tys_ok fns_ok cPg_det cPg_det.ok mixed (page_t b p h1 h2)⟩
/-! A truth -/
abbrev oB (o : List UInt8) : Option Blk := some (.cells (o.map encB) false)
abbrev slB (n : Nat) (o : List UInt8) : AVal := .slice n 0 o.length 1 none
theorem ap_reb [Syms] {N k K nx : Nat} {e : Env} {H : Heap} {len : Nat} {rows : List (List AVal)} {o : List UInt8} {cap : Option Nat} (hn : NumsOk 1 nx [0, K] = true) (hk : e.get k = .slice K 0 len 1 cap) (hb : H.get K = some (.cells rows false)) (hr : rows = o.map encB) (hl : len = o.length) : Reb 1 N ⟨e, H, nx⟩ ⟨[(k, slB 1 o)], [(1, oB o)], 2⟩ := by
 subst hr hl
 exact reb_num [0, K] hn ⟨by rw [hk]; exact wk_slc rfl, trivial⟩ ⟨⟨Nat.lt_succ_self _, _, hb, wkB_eq rfl (fB _)⟩, trivial⟩
theorem apNew (q s : List UInt8) : List.take q.length (List.drop 0 (q.map encB)) ++ s.map encB = (q ++ s).map encB := by
 rw [List.drop_zero, List.take_of_length_le (by simp), List.map_append]
theorem apLen (q s : List UInt8) : q.length + (s.map encB).length = (q ++ s).length := by rw [List.length_map, List.length_append]
theorem apZ (q : List UInt8) {s : List UInt8} (h : s.length = 0) : q.map encB = (q ++ s).map encB := by rw [List.eq_nil_of_length_eq_zero h, List.append_nil]
theorem apZl (q : List UInt8) {s : List UInt8} (h : s.length = 0) : q.length = (q ++ s).length := by rw [List.eq_nil_of_length_eq_zero h, List.append_nil]
theorem fin_ap [Syms] {Post : AVal → Heap → Nat → Prop} {N k K nx : Nat} {e : Env} {H : Heap} {len : Nat} {rows : List (List AVal)} {o : List UInt8} {rs : List ResultVar} {cap : Option Nat} (hn : NumsOk 1 nx [0, K] = true) (hk : e.get k = .slice K 0 len 1 cap) (hb : H.get K = some (.cells rows false)) (hr : rows = o.map encB) (hl : len = o.length)
 (hrs : resultsA (tyTab tys) ⟨[(k, slB 1 o)], [(1, oB o)], 2⟩ rs = some (slB 1 o)) (hP : Post (slB 1 o) [(1, oB o)] 2) :
 ∃ s3, Reb 1 N ⟨e, H, nx⟩ s3 ∧ ∃ v, resultsA (tyTab tys) s3 rs = some v ∧ Post v s3.heap s3.nx := by
 subst hr hl
 exact ⟨⟨[(k, slB 1 o)], [(1, oB o)], 2⟩, reb_num [0, K] hn ⟨by rw [hk]; exact wk_slc rfl, trivial⟩ ⟨⟨Nat.lt_succ_self _, _, hb, wkB_eq rfl (fB _)⟩, trivial⟩, _, hrs, hP⟩
theorem flag_t [Syms] {Post : AVal → Heap → Nat → Prop} (o : List UInt8) (b : Bool) (hl : o.length ≤ 1000000) (hP : Post (slB 1 (o ++ flB b)) [(1, oB (o ++ flB b))] 2) :
 fnT noneT noneT (fnTab fns) (tyTab tys) (plTab plt) 100 76 [slB 0 o, .bool b] [(0, oB o)] 1 Post := by
 have hr : ∀ z : UInt8, List.take o.length (List.drop 0 (o.map encB)) ++ List.take 1 (List.drop 0 [[AVal.int .u8 (z.toNat : Nat)]]) = (o ++ [z]).map encB := fun z => by
  rw [List.drop_zero, List.take_of_length_le (by simp), List.map_append]; rfl
 cases b
 ·repeat' (first | (refine And.intro ?_ ?_) | (intro h; try first | exact dzq | replace h := cvq))
  all_goals (try exact cz)
  exact fin_ap (k := 4) (K := 2) (by exact rfl) rfl rfl (hr 0) (by simp [flB]) rfl hP
 ·repeat' (first | (refine And.intro ?_ ?_) | (intro h; try first | exact dzq | replace h := cvq))
  all_goals (try exact cz)
  exact fin_ap (k := 4) (K := 2) (by exact rfl) rfl rfl (hr 1) (by simp [flB]) rfl hP
def S_flag : SpecT := fun args H nx Post => ∃ o b, args = [slB 0 o, .bool b] ∧ H = [(0, oB o)] ∧ nx = 1 ∧ o.length ≤ 1000000 ∧ Post (slB 1 (o ++ flB b)) [(1, oB (o ++ flB b))] 2
theorem flag_ok [Syms] : S_flag.ok Try.prog 76 := by
 rintro args H nx Post ⟨o, b, rfl, rfl, rfl, h1, h⟩
 exact fnT_sound tys_ok fns_ok noneT_det noneT_ok mixed (flag_t o b h1 h)
/-! A value -/
abbrev cVa [Syms] : CallT := pickT 97 bN (pickT 43 (ownT S_nums) (pickT 72 (ownT S_cput) noneT))
theorem cVa_ok [Syms] : cVa.ok Try.prog := pickT_ok bN_ok cPg_det.ok
theorem wrNN (x : Int) : 0 ≤ wr .u64 x := by
 unfold wr
 split
 ·rename_i h; exact h.1
 ·show (0 : Int) ≤ (if (false && decide (x % (2 ^ 64 : Int) ≥ (2 ^ 63 : Int))) = true then x % (2 ^ 64 : Int) - (2 ^ 64 : Int) else x % (2 ^ 64 : Int))
  simp; omega
theorem wr8r (x : Int) : 0 ≤ wr .u8 x ∧ wr .u8 x < 256 := by
 unfold wr
 split
 ·rename_i h; exact ⟨h.1, by have h2 : x ≤ (255 : Int) := h.2; omega⟩
 ·show (0 : Int) ≤ (if (false && decide (x % (2 ^ 8 : Int) ≥ (2 ^ 7 : Int))) = true then x % (2 ^ 8 : Int) - (2 ^ 8 : Int) else x % (2 ^ 8 : Int)) ∧ (if (false && decide (x % (2 ^ 8 : Int) ≥ (2 ^ 7 : Int))) = true then x % (2 ^ 8 : Int) - (2 ^ 8 : Int) else x % (2 ^ 8 : Int)) < 256
  simp; omega
theorem wr8n (x : Int) : wr .u8 x = (((UInt8.ofNat (wr .u8 x).toNat).toNat : Nat) : Int) := by
 have := wr8r x
 rw [ofNat_lt (by omega)]; omega
noncomputable def plVa : Nat → Nat → Pl := plAdd [(77, 8)] (plTab plt)
theorem value_t [Syms] {Post : AVal → Heap → Nat → Prop} (o : List UInt8) (k : Int) (v : Vl) (hl : o.length + (vlB k v).length ≤ 1000000) (hP : Post (slB 1 (o ++ vlB k v)) [(1, oB (o ++ vlB k v))] 2) :
 fnT noneT cVa (fnTab fns) (tyTab tys) plVa 100 77 [slB 0 o, .int .i64 k, .agg (encV v)] [(0, oB o)] 1 Post := by
 have hw : wr .u64 v.n = (((wr .u64 v.n).toNat : Nat) : Int) := (Int.toNat_of_nonneg (wrNN _)).symm
 unfold vlB at hP hl
 by_cases h1 : k = 1
 ·subst h1
  rw [if_pos rfl] at hP hl
  have hr : List.take o.length (List.drop 0 (o.map encB)) ++ List.take 1 (List.drop 0 [[AVal.int .u8 (wr .u8 v.n)]]) = (o ++ [UInt8.ofNat (wr .u8 v.n).toNat]).map encB := by
   rw [List.drop_zero, List.take_of_length_le (by simp), List.map_append]
   exact congrArg (fun z => o.map encB ++ [[AVal.int .u8 z]]) (wr8n v.n)
  have hl' : o.length ≤ 1000000 := by omega
  repeat' (first | (refine And.intro ?_ ?_) | (intro h; try first | exact dzq | replace h := cvq))
  all_goals (try exact cz)
  refine ⟨_, .refl _ _ _, _, rfl, ?_⟩
  repeat' (first | (refine And.intro ?_ ?_) | (intro h; try first | exact dzq | replace h := cvq))
  all_goals (try exact cz)
  exact fin_ap (k := 6) (K := 3) (by exact rfl) rfl rfl hr (by simp) rfl hP
 rw [if_neg h1] at hP hl
 by_cases h2 : k = 2
 ·subst h2
  rw [if_pos rfl] at hP hl
  repeat' (first | (refine And.intro ?_ ?_) | (intro h; try first | exact dzq | replace h := cvq))
  all_goals (try exact cz)
  refine ⟨_, .refl _ _ _, _, rfl, ?_⟩
  repeat' (first | (refine And.intro ?_ ?_) | (intro h; try first | exact dzq | replace h := cvq))
  all_goals (try exact cz)
  refine ⟨[vB o, .int .i64 ((4 : Nat) : Int), .int .u64 (wr .u64 v.n)], ⟨.byt rfl rfl rfl, .imm _ rfl, .imm _ rfl, trivial⟩, o, 4, (wr .u64 v.n).toNat, congrArg (fun z => [vB o, .int .i64 ((4 : Nat) : Int), AVal.int .u64 z]) hw, by omega, by omega, ?_⟩
  repeat' (first | (refine And.intro ?_ ?_) | (intro h; try first | exact dzq | replace h := cvq))
  all_goals (try exact cz)
  exact fin_ap (k := 6) (K := 2) (by exact rfl) rfl rfl rfl rfl rfl hP
 rw [if_neg h2] at hP hl
 by_cases h3 : k = 3
 ·subst h3
  rw [if_pos rfl] at hP hl
  repeat' (first | (refine And.intro ?_ ?_) | (intro h; try first | exact dzq | replace h := cvq))
  all_goals (try exact cz)
  refine ⟨_, .refl _ _ _, _, rfl, ?_⟩
  repeat' (first | (refine And.intro ?_ ?_) | (intro h; try first | exact dzq | replace h := cvq))
  all_goals (try exact cz)
  refine ⟨[vB o, .int .i64 ((8 : Nat) : Int), .int .u64 (wr .u64 v.n)], ⟨.byt rfl rfl rfl, .imm _ rfl, .imm _ rfl, trivial⟩, o, 8, (wr .u64 v.n).toNat, congrArg (fun z => [vB o, .int .i64 ((8 : Nat) : Int), AVal.int .u64 z]) hw, by omega, by omega, ?_⟩
  repeat' (first | (refine And.intro ?_ ?_) | (intro h; try first | exact dzq | replace h := cvq))
  all_goals (try exact cz)
  exact fin_ap (k := 6) (K := 2) (by exact rfl) rfl rfl rfl rfl rfl hP
 rw [if_neg h3] at hP hl
 repeat' (first | (refine And.intro ?_ ?_) | (intro h; try first | exact dzq | replace h := cvq))
 all_goals (try exact cz)
 refine ⟨_, .refl _ _ _, _, rfl, ?_⟩
 repeat' (first | (refine And.intro ?_ ?_) | (intro h; try first | exact dzq | replace h := cvq))
 all_goals (try exact cz)
 have hl2 : o.length + (nuB [(v.s.length : Int)]).length + v.s.length ≤ 1000000 := by rw [List.length_append] at hl; omega
 have hO : o ++ nuB [(v.s.length : Int)] ++ v.s = o ++ (nuB [(v.s.length : Int)] ++ v.s) := List.append_assoc ..
 rw [← hO] at hP
 have hl3 : (o ++ nuB [(v.s.length : Int)]).length + v.s.length ≤ 1000000 := by rw [List.length_append]; omega
 have hcall : ∀ K : List UInt8 → Prop, K (o ++ nuB [(v.s.length : Int)]) → S_nums [vB o, vI [(v.s.length : Int)]] K := fun K hk => ⟨o, [(v.s.length : Int)], rfl, by omega, ⟨fun x hx => by simp at hx; subst hx; omega, by simp, by simp⟩, hk⟩
 generalize o ++ nuB [(v.s.length : Int)] = q at *
 refine ⟨⟨[(6, slB 1 (q ++ v.s))], [(1, oB (q ++ v.s))], 2⟩, ?_, ?_⟩
 ·repeat' (first | (refine And.intro ?_ ?_) | (intro h; try first | exact dzq | replace h := cvq))
  all_goals (try exact cz)
  all_goals (refine ⟨[vB o, vI [(v.s.length : Int)]], ⟨.byt rfl rfl rfl, .ints rfl rfl rfl, trivial⟩, ?_⟩; refine hcall _ ?_)
  repeat' (first | (refine And.intro ?_ ?_) | (intro h; try first | exact dzq | replace h := cvq))
  all_goals (try exact cz)
  all_goals (try ((with_reducible show _ = true); show allLen 1 (v.s.map encB) = true; exact allLen_map (enc := encB) (z := 1) (fun _ => rfl) _))
  all_goals (try ((with_reducible show (_ : Nat) ≤ _); first | (show (q.length + (v.s.map encB).length) * 1 ≤ _; rw [List.length_map]; omega) | (show q.length + (v.s.map encB).length ≤ _; rw [List.length_map]; omega)))
  all_goals first
   | exact Exists.intro () (ap_reb (k := 6) (K := 4) (by exact rfl) rfl rfl (apNew q v.s) (apLen q v.s))
   | exact Exists.intro () (ap_reb (k := 6) (K := 5) (by exact rfl) rfl rfl (apNew q v.s) (apLen q v.s))
   | exact Exists.intro () (ap_reb (k := 6) (K := 3) (by exact rfl) rfl rfl (apNew q v.s) (apLen q v.s))
   | exact Exists.intro () (ap_reb (k := 6) (K := 3) (by exact rfl) rfl rfl (apZ q (show v.s.length = 0 from h)) (apZl q (show v.s.length = 0 from h)))
   | exact Exists.intro () (ap_reb (k := 6) (K := 4) (by exact rfl) rfl rfl (apZ q (show v.s.length = 0 from h)) (apZl q (show v.s.length = 0 from h)))
   | exact Exists.intro () (ap_reb (k := 6) (K := 2) (by exact rfl) rfl rfl (apZ q (show v.s.length = 0 from h)) (apZl q (show v.s.length = 0 from h)))
 ·repeat' (first | (refine And.intro ?_ ?_) | (intro h; try first | exact dzq | replace h := cvq))
  all_goals (try exact cz)
  exact ⟨_, .refl _ _ _, _, rfl, hP⟩
def S_value : SpecT := fun args H nx Post => ∃ o k v, args = [slB 0 o, .int .i64 k, .agg (encV v)] ∧ H = [(0, oB o)] ∧ nx = 1 ∧ o.length + (vlB k v).length ≤ 1000000 ∧ Post (slB 1 (o ++ vlB k v)) [(1, oB (o ++ vlB k v))] 2
theorem value_ok [Syms] : S_value.ok Try.prog 77 := by
 rintro args H nx Post ⟨o, k, v, rfl, rfl, rfl, h1, h⟩
 exact fnT_sound tys_ok fns_ok noneT_det cVa_ok mixed (value_t o k v h1 h)
end Go.Proofs.Ytajieadpaeggcaa

end
section
set_option linter.unusedVariables false
set_option linter.unusedSimpArgs false
namespace Go.Proofs.Ytajieadpaeggcaa
open Go Go.Av
set_option maxRecDepth 100000
set_option maxHeartbeats 4000000
structure CkB (c : Ck) : Prop where
 n1 : NumOk c.words
 n2 : NumOk c.size
 crc : CrcOk c.crc
 nulls : NumOk c.st.nulls
 pages : ∀ p ∈ c.pages, PgB p
 len : c.pages.length ≤ 100000
theorem pgsB_app : ∀ (l m : List Pg), pgsB (l ++ m) = pgsB l ++ pgsB m
 | [], m => rfl
 | x :: l, m => by rw [List.cons_append, pgsB, pgsB, pgsB_app l m, List.append_assoc]
theorem pgsB_take {l : List Pg} {i : Nat} (h : i < l.length) : pgsB (l.take (i + 1)) = pgsB (l.take i) ++ pgB (l.getD i default) := by
 rw [List.take_add_one, pgsB_app, List.getD_eq_getElem?_getD, List.getElem?_eq_getElem h]
 simp [pgsB]
theorem pgsB_le (l : List Pg) (i : Nat) : (pgsB (l.take i)).length ≤ (pgsB l).length := by
 have : pgsB l = pgsB (l.take i) ++ pgsB (l.drop i) := by rw [← pgsB_app, List.take_append_drop]
 rw [this, List.length_append]; omega
abbrev cCb [Syms] : CallT := pickT 43 (ownT S_nums) (pickT 72 (ownT S_cput) (pickT 75 (ownT S_page) (pickT 76 (specT S_flag) (pickT 77 (specT S_value) noneT))))
theorem cCb_ok [Syms] : cCb.ok Try.prog := pickT_own_ok nums_ok (pickT_own_ok cput_ok (pickT_own_ok page_ok (pickT_spec flag_ok (pickT_spec value_ok noneT_ok))))
noncomputable def plCb : Nat → Nat → Pl := plAdd [(45, 2), (45, 8), (45, 11), (45, 13)] (plTab plt)
def cbS (k : Int) (c : Ck) (o : List UInt8) : St := ⟨[(0, slB 1 o), (1, .int .i64 k), (5, .ptr 2 0 0)], [(1, oB o), (2, some (.cells [encC c] false))], 3⟩
def cbL (k : Int) (c : Ck) (o : List UInt8) (i : Nat) : St := ⟨[(0, slB 1 o), (1, .int .i64 k), (5, .ptr 2 0 0), (27, vP c.pages), (28, .int .i64 c.pages.length), (29, .int .i64 i)], [(1, oB o), (2, some (.cells [encC c] false))], 3⟩
theorem cb_reb [Syms] {N K B nx : Nat} {e : Env} {H : Heap} {len : Nat} {rows : List (List AVal)} {row : List AVal} {k : Int} {c : Ck} {o : List UInt8} {cap : Option Nat} (hn : NumsOk 1 nx [0, K, B] = true) (h0 : e.get 0 = .slice K 0 len 1 cap) (h1 : e.get 1 = .int .i64 k) (h5 : e.get 5 = .ptr B 0 0) (hK : H.get K = some (.cells rows false)) (hB : H.get B = some (.cells [row] false)) (hrow : row = encC c) (hr : rows = o.map encB) (hl : len = o.length) : Reb 1 N ⟨e, H, nx⟩ (cbS k c o) := by
 subst hr hl hrow
 exact reb_num [0, K, B] hn ⟨by rw [h0]; exact wk_slc rfl, by rw [h1]; exact .refl _, by rw [h5]; exact .refl _, trivial⟩ ⟨⟨show 1 < 3 by decide, _, hK, wkB_eq rfl (fB _)⟩, ⟨show 2 < 3 by decide, _, hB, wkB_row (row := encC c) ⟨.refl _, .refl _, .refl _, .refl _, .refl _, .refl _, .refl _, .refl _, .refl _, .refl _, .refl _, trivial⟩ (eC c)⟩, trivial⟩
theorem cbL_reb [Syms] {N K nx : Nat} {e : Env} {H : Heap} {len : Nat} {rows : List (List AVal)} {k i1 : Int} {c : Ck} {o : List UInt8} {i : Nat} {cap : Option Nat} (hn : NumsOk 1 nx [0, K, 2] = true) (h0 : e.get 0 = .slice K 0 len 1 cap) (h1 : e.get 1 = .int .i64 k) (h5 : e.get 5 = .ptr 2 0 0) (h27 : e.get 27 = vP c.pages) (h28 : e.get 28 = .int .i64 c.pages.length) (h29 : e.get 29 = .int .i64 i1) (hi : i1 = i)
 (hK : H.get K = some (.cells rows false)) (hB : H.get 2 = some (.cells [encC c] false)) (hr : rows = o.map encB) (hl : len = o.length) : Reb 1 N ⟨e, H, nx⟩ (cbL k c o i) := by
 subst hr hl hi
 exact reb_num [0, K, 2] hn ⟨by rw [h0]; exact wk_slc rfl, by rw [h1]; exact .refl _, by rw [h5]; exact .refl _, by rw [h27]; exact .refl _, by rw [h28]; exact .refl _, by rw [h29]; exact .refl _, trivial⟩ ⟨⟨show 1 < 3 by decide, _, hK, wkB_eq rfl (fB _)⟩, ⟨show 2 < 3 by decide, _, hB, .refl _⟩, trivial⟩
theorem chunkB_t [Syms] {Post : AVal → Heap → Nat → Prop} (o : List UInt8) (k : Int) (c : Ck) (hc : CkB c) (hl : o.length + (ckB k c).length ≤ 1000000) (hP : Post (slB 1 (o ++ ckB k c)) [(1, oB (o ++ ckB k c))] 2) :
 fnT cPg cCb (fnTab fns) (tyTab tys) plCb 100 45 [slB 0 o, .int .i64 k, .agg (encC c)] [(0, oB o)] 1 Post := by
 have hw := wrC hc.crc
 have hlen : (ckB k c).length = (nuB [c.words, c.size]).length + 4 + (nuB [(c.pages.length : Int)]).length + (pgsB c.pages).length + (flB c.known).length + (if c.known = true then stB k c.st else []).length := by
  unfold ckB; simp only [List.length_append, leB_len]
 have hO : o ++ ckB k c = o ++ nuB [c.words, c.size] ++ leB 4 c.crc.toNat ++ nuB [(c.pages.length : Int)] ++ pgsB c.pages ++ flB c.known ++ (if c.known = true then stB k c.st else []) := by
  unfold ckB; simp only [List.append_assoc]
 rw [hO] at hP
 have hcall1 : ∀ K : List UInt8 → Prop, K (o ++ nuB [c.words, c.size]) → S_nums [vB o, vI [c.words, c.size]] K := fun K hk => ⟨o, [c.words, c.size], rfl, by omega, ⟨fun x hx => by simp at hx; rcases hx with rfl | rfl <;> first | exact hc.n1 | exact hc.n2, by simp, by simp⟩, hk⟩
 have hl1 : (o ++ nuB [c.words, c.size]).length = o.length + (nuB [c.words, c.size]).length := List.length_append
 generalize hq1 : o ++ nuB [c.words, c.size] = q1 at *
 have hcall2 : ∀ K : List UInt8 → Prop, K (q1 ++ leB 4 c.crc.toNat) → S_cput [vB q1, .int .i64 ((4 : Nat) : Int), .int .u64 (wr .u64 c.crc)] K := fun K hk => ⟨q1, 4, c.crc.toNat, congrArg (fun z => [vB q1, .int .i64 ((4 : Nat) : Int), AVal.int .u64 z]) hw, by omega, by omega, hk⟩
 have hl2 : (q1 ++ leB 4 c.crc.toNat).length = q1.length + 4 := by rw [List.length_append, leB_len]
 generalize hq2 : q1 ++ leB 4 c.crc.toNat = q2 at *
 repeat' (first | (refine And.intro ?_ ?_) | (intro h; try first | exact dzq | replace h := cvq))
 all_goals (try exact cz)
 refine ⟨[vB o, vI [c.words, c.size]], ⟨.byt (rows := o.map encB) (ro := true) (by kernel_rfl) rfl rfl, .ints (rows := [[.int .i64 c.words], [.int .i64 c.size]]) (ro := true) (by kernel_rfl) rfl rfl, trivial⟩, ?_⟩
 refine hcall1 _ ?_
 repeat' (first | (refine And.intro ?_ ?_) | (intro h; try first | exact dzq | replace h := cvq))
 all_goals (try exact cz)
 refine ⟨[vB q1, .int .i64 ((4 : Nat) : Int), .int .u64 (wr .u64 c.crc)], ⟨.byt (rows := q1.map encB) (ro := false) (by kernel_rfl) rfl rfl, .imm _ rfl, .imm _ rfl, trivial⟩, ?_⟩
 refine hcall2 _ ?_
 repeat' (first | (refine And.intro ?_ ?_) | (intro h; try first | exact dzq | replace h := cvq))
 all_goals (try exact cz)
 have hcall3 : ∀ K : List UInt8 → Prop, K (q2 ++ nuB [(c.pages.length : Int)]) → S_nums [vB q2, vI [(c.pages.length : Int)]] K := fun K hk => ⟨q2, [(c.pages.length : Int)], rfl, by omega, ⟨fun x hx => by simp at hx; subst hx; have := hc.len; omega, by simp, by simp⟩, hk⟩
 have hl3 : (q2 ++ nuB [(c.pages.length : Int)]).length = q2.length + (nuB [(c.pages.length : Int)]).length := List.length_append
 generalize hq3 : q2 ++ nuB [(c.pages.length : Int)] = q3 at *
 refine ⟨[vB q2, vI [(c.pages.length : Int)]], ⟨.byt (rows := q2.map encB) (ro := false) (by kernel_rfl) rfl rfl, .ints (rows := [[.int .i64 (((c.pages.map encP).length : Nat) : Int)]]) (ro := false) (by kernel_rfl) (by rw [List.length_map]; rfl) rfl, trivial⟩, ?_⟩
 refine hcall3 _ ?_
 repeat' (first | (refine And.intro ?_ ?_) | (intro h; try first | exact dzq | replace h := cvq))
 all_goals (try exact cz)
 refine ⟨cbS k c q3, cb_reb (K := 1 + 1 + 10 * RR + 1 + 1) (B := 1) (by kernel_rfl) rfl rfl rfl (by kernel_rfl) (by kernel_rfl) rfl rfl rfl, ?_⟩
 repeat' (first | (refine And.intro ?_ ?_) | (intro h; try first | exact dzq | replace h := cvq))
 all_goals (try exact cz)
 have hpl := hc.len
 refine ⟨fun m s => ∃ i : Nat, (i ≤ c.pages.length ∧ m = c.pages.length - i) ∧ s = cbL k c (q3 ++ pgsB (c.pages.take i)) i, ⟨_, cbL k c (q3 ++ pgsB (c.pages.take 0)) 0, reb_num [0, 1, 2] (by exact rfl) ⟨wk_slc (by simp [pgsB]), .refl _, .refl _, .tab rfl, wk_int (by show (((c.pages.map encP).length : Nat) : Int) = _; rw [List.length_map]), .refl _, trivial⟩ ⟨⟨by decide, _, rfl, wkB_eq (by simp [pgsB]) (fB _)⟩, ⟨by decide, _, rfl, .refl _⟩, trivial⟩, 0, ⟨by omega, rfl⟩, rfl⟩, ?_⟩
 rintro m s ⟨i, ⟨hi, rfl⟩, rfl⟩
 by_cases h1 : i < c.pages.length
 ·have hpi : PgB (c.pages.getD i default) := by
   rw [List.getD_eq_getElem?_getD, List.getElem?_eq_getElem h1]; exact hc.pages _ (List.getElem_mem h1)
  have hpt := pgsB_take h1
  have hpl2 := pgsB_le c.pages (i + 1)
  have hO2 : q3 ++ pgsB (c.pages.take (i + 1)) = q3 ++ pgsB (c.pages.take i) ++ pgB (c.pages.getD i default) := by rw [hpt, List.append_assoc]
  have hlo : (q3 ++ pgsB (c.pages.take i)).length + (pgB (c.pages.getD i default)).length ≤ 1000000 := by
   rw [hpt, List.length_append] at hpl2
   rw [List.length_append]; omega
  have hcall : ∀ K : List UInt8 → Prop, K (q3 ++ pgsB (c.pages.take (i + 1))) → S_page [vB (q3 ++ pgsB (c.pages.take i)), .agg (encP (c.pages.getD i default))] K := fun K hk => ⟨_, _, rfl, ⟨hpi, hlo⟩, hO2 ▸ hk⟩
  clear hpt hO2 hlo hpl2
  generalize q3 ++ pgsB (c.pages.take i) = q at *
  generalize hq' : q3 ++ pgsB (c.pages.take (i + 1)) = q' at *
  repeat' (first | (refine And.intro ?_ ?_) | (intro h; try first | exact dzq | replace h := cvq))
  all_goals (try exact czq)
  refine ⟨[vB q, .agg (encP (c.pages.getD i default))], ⟨.byt rfl rfl rfl, .imm _ rfl, trivial⟩, ?_⟩
  refine hcall _ ?_
  repeat' (first | (refine And.intro ?_ ?_) | (intro h; try first | exact dzq | replace h := cvq))
  all_goals (try exact czq)
  exact ⟨_, cbL k c q' (i + 1), cbL_reb (K := 5) (by exact rfl) rfl rfl rfl rfl rfl rfl (by omega) rfl rfl rfl rfl, ⟨i + 1, ⟨by omega, rfl⟩, by rw [hq']⟩, by omega⟩
 ·obtain rfl : i = c.pages.length := by omega
  rw [List.take_length]
  have hl4 : (q3 ++ pgsB c.pages).length = q3.length + (pgsB c.pages).length := List.length_append
  generalize hq4 : q3 ++ pgsB c.pages = q4 at *
  have hl5 : (q4 ++ flB c.known).length = q4.length + (flB c.known).length := List.length_append
  have hcall4 : ∀ K : AVal → Heap → Nat → Prop, K (slB 1 (q4 ++ flB c.known)) [(1, oB (q4 ++ flB c.known))] 2 → S_flag [slB 0 q4, .bool c.known] [(0, oB q4)] 1 K := fun K hk => ⟨q4, c.known, rfl, rfl, rfl, by omega, hk⟩
  generalize hq5 : q4 ++ flB c.known = q5 at *
  repeat' (first | (refine And.intro ?_ ?_) | (intro h; try first | exact dzq | replace h := cvq))
  all_goals (try exact cz)
  refine ⟨[1], [slB 0 q4, .bool c.known], [(0, oB q4)], rfl, ⟨.refl _, .refl _, trivial⟩, ⟨⟨by decide, _, rfl, wkB_same (fB _)⟩, trivial⟩, ?_⟩
  refine hcall4 _ ?_
  repeat' (first | (refine And.intro ?_ ?_) | (intro h; try first | exact dzq | replace h := cvq))
  all_goals (try exact cz)
  refine ⟨cbS k c q5, cb_reb (K := 4) (B := 2) (by exact rfl) rfl rfl rfl (congrArg some (blk_flat _ (fB _))) rfl rfl rfl rfl, ?_⟩
  have hsl : (stB k c.st).length = (nuB [c.st.nulls]).length + (flB c.st.has).length + (if c.st.has = true then vlB k c.st.mn ++ vlB k c.st.mx else []).length := by
   unfold stB; simp only [List.length_append]
  cases hk : c.known
  ·rw [hk] at hO hP hlen
   rw [if_neg (by decide), List.append_nil] at hP
   have hx1 := hk
   have hx2 := hk
   have hx3 := hk
   have hx4 := hk
   repeat' (first | (refine And.intro ?_ ?_) | (intro h; try first | exact dzqi | replace h := cvqi))
   all_goals (try exact cz)
   exact fin_ap (k := 6) (K := 1) (by exact rfl) rfl rfl rfl rfl rfl hP
  ·rw [hk] at hO hP hlen hl5
   rw [if_pos rfl] at hP hlen
   have hx1 := hk
   have hx2 := hk
   have hx3 := hk
   have hx4 := hk
   repeat' (first | (refine And.intro ?_ ?_) | (intro h; try first | exact dzqi | replace h := cvqi))
   all_goals (try exact cz)
   have hO3 : q5 ++ stB k c.st = q5 ++ nuB [c.st.nulls] ++ flB c.st.has ++ (if c.st.has = true then vlB k c.st.mn ++ vlB k c.st.mx else []) := by unfold stB; simp only [List.append_assoc]
   rw [hO3] at hP
   have hl6 : (q5 ++ nuB [c.st.nulls]).length = q5.length + (nuB [c.st.nulls]).length := List.length_append
   have hcall5 : ∀ K : List UInt8 → Prop, K (q5 ++ nuB [c.st.nulls]) → S_nums [vB q5, vI [c.st.nulls]] K := fun K hk => ⟨q5, [c.st.nulls], rfl, by omega, ⟨fun x hx => by simp at hx; subst hx; exact hc.nulls, by simp, by simp⟩, hk⟩
   generalize hq6 : q5 ++ nuB [c.st.nulls] = q6 at *
   have hl7 : (q6 ++ flB c.st.has).length = q6.length + (flB c.st.has).length := List.length_append
   have hcall6 : ∀ K : AVal → Heap → Nat → Prop, K (slB 1 (q6 ++ flB c.st.has)) [(1, oB (q6 ++ flB c.st.has))] 2 → S_flag [slB 0 q6, .bool c.st.has] [(0, oB q6)] 1 K := fun K hk => ⟨q6, c.st.has, rfl, rfl, rfl, by omega, hk⟩
   generalize hq7 : q6 ++ flB c.st.has = q7 at *
   refine ⟨cbS k c q7, ?_, ?_⟩
   ·repeat' (first | (refine And.intro ?_ ?_) | (intro h; try first | exact dzq | replace h := cvq))
    all_goals (try exact cz)
    all_goals (refine ⟨[vB q5, vI [c.st.nulls]], ⟨.byt rfl rfl rfl, .ints rfl rfl rfl, trivial⟩, ?_⟩; refine hcall5 _ ?_)
    repeat' (first | (refine And.intro ?_ ?_) | (intro h; try first | exact dzq | replace h := cvq))
    all_goals (try exact cz)
    all_goals (first | refine ⟨[4], [slB 0 q6, .bool c.st.has], [(0, oB q6)], by exact rfl, ⟨by exact .refl _, by exact .refl _, trivial⟩, ⟨⟨Nat.zero_lt_one, _, by exact rfl, wkB_same (fB _)⟩, trivial⟩, ?_⟩ | refine ⟨[3], [slB 0 q6, .bool c.st.has], [(0, oB q6)], by exact rfl, ⟨by exact .refl _, by exact .refl _, trivial⟩, ⟨⟨Nat.zero_lt_one, _, by exact rfl, wkB_same (fB _)⟩, trivial⟩, ?_⟩ | refine ⟨[5], [slB 0 q6, .bool c.st.has], [(0, oB q6)], by exact rfl, ⟨by exact .refl _, by exact .refl _, trivial⟩, ⟨⟨Nat.zero_lt_one, _, by exact rfl, wkB_same (fB _)⟩, trivial⟩, ?_⟩)
    all_goals refine hcall6 _ ?_
    repeat' (first | (refine And.intro ?_ ?_) | (intro h; try first | exact dzq | replace h := cvq))
    all_goals (try exact cz)
    all_goals (first | exact Exists.intro () (cb_reb (K := 6) (B := 2) (by exact rfl) rfl rfl rfl (congrArg some (blk_flat _ (fB _))) rfl rfl rfl rfl) | exact Exists.intro () (cb_reb (K := 5) (B := 2) (by exact rfl) rfl rfl rfl (congrArg some (blk_flat _ (fB _))) rfl rfl rfl rfl) | exact Exists.intro () (cb_reb (K := 7) (B := 2) (by exact rfl) rfl rfl rfl (congrArg some (blk_flat _ (fB _))) rfl rfl rfl rfl))
   ·cases hh : c.st.has
    ·rw [hh, if_neg (by decide), List.append_nil] at hP
     have hx1 := hh
     have hx2 := hh
     have hx3 := hh
     have hx4 := hh
     repeat' (first | (refine And.intro ?_ ?_) | (intro h; try first | exact dzqi | replace h := cvqi))
     all_goals (try exact cz)
     exact fin_ap (k := 6) (K := 1) (by exact rfl) rfl rfl rfl rfl rfl hP
    ·rw [hh, if_pos rfl] at hP
     rw [hh, if_pos rfl] at hsl
     rw [hh] at hl7
     have hx1 := hh
     have hx2 := hh
     have hx3 := hh
     have hx4 := hh
     repeat' (first | (refine And.intro ?_ ?_) | (intro h; try first | exact dzqi | replace h := cvqi))
     all_goals (try exact cz)
     rw [List.length_append] at hsl
     rw [← List.append_assoc] at hP
     have hl8 : (q7 ++ vlB k c.st.mn).length = q7.length + (vlB k c.st.mn).length := List.length_append
     have hcall7 : ∀ K : AVal → Heap → Nat → Prop, K (slB 1 (q7 ++ vlB k c.st.mn)) [(1, oB (q7 ++ vlB k c.st.mn))] 2 → S_value [slB 0 q7, .int .i64 k, .agg (encV c.st.mn)] [(0, oB q7)] 1 K := fun K hk => ⟨q7, k, c.st.mn, rfl, rfl, rfl, by omega, hk⟩
     generalize hq8 : q7 ++ vlB k c.st.mn = q8 at *
     have hl9 : (q8 ++ vlB k c.st.mx).length = q8.length + (vlB k c.st.mx).length := List.length_append
     have hcall8 : ∀ K : AVal → Heap → Nat → Prop, K (slB 1 (q8 ++ vlB k c.st.mx)) [(1, oB (q8 ++ vlB k c.st.mx))] 2 → S_value [slB 0 q8, .int .i64 k, .agg (encV c.st.mx)] [(0, oB q8)] 1 K := fun K hk => ⟨q8, k, c.st.mx, rfl, rfl, rfl, by omega, hk⟩
     generalize hq9 : q8 ++ vlB k c.st.mx = q9 at *
     refine ⟨cbS k c q9, ?_, ?_⟩
     ·repeat' (first | (refine And.intro ?_ ?_) | (intro h; try first | exact dzq | replace h := cvq))
      all_goals (try exact cz)
      all_goals (refine ⟨[1], [slB 0 q7, .int .i64 k, .agg (encV c.st.mn)], [(0, oB q7)], by exact rfl, ⟨by exact .refl _, by exact .refl _, by exact .refl _, trivial⟩, ⟨⟨Nat.zero_lt_one, _, by exact rfl, wkB_same (fB _)⟩, trivial⟩, ?_⟩; refine hcall7 _ ?_)
      repeat' (first | (refine And.intro ?_ ?_) | (intro h; try first | exact dzq | replace h := cvq))
      all_goals (try exact cz)
      all_goals (refine ⟨[4], [slB 0 q8, .int .i64 k, .agg (encV c.st.mx)], [(0, oB q8)], by exact rfl, ⟨by exact .refl _, by exact .refl _, by exact .refl _, trivial⟩, ⟨⟨Nat.zero_lt_one, _, by exact congrArg some (blk_flat _ (fB _)), wkB_same (fB _)⟩, trivial⟩, ?_⟩; refine hcall8 _ ?_)
      repeat' (first | (refine And.intro ?_ ?_) | (intro h; try first | exact dzq | replace h := cvq))
      all_goals (try exact cz)
      all_goals exact Exists.intro () (cb_reb (K := 6) (B := 2) (by exact rfl) rfl rfl rfl (congrArg some (blk_flat _ (fB _))) rfl rfl rfl rfl)
     ·repeat' (first | (refine And.intro ?_ ?_) | (intro h; try first | exact dzq | replace h := cvq))
      all_goals (try exact cz)
      exact fin_ap (k := 6) (K := 1) (by exact rfl) rfl rfl rfl rfl rfl hP
def S_chunkB : SpecT := fun args H nx Post => ∃ o k c, args = [slB 0 o, .int .i64 k, .agg (encC c)] ∧ H = [(0, oB o)] ∧ nx = 1 ∧ (CkB c ∧ o.length + (ckB k c).length ≤ 1000000) ∧ Post (slB 1 (o ++ ckB k c)) [(1, oB (o ++ ckB k c))] 2
theorem chunkB_ok [Syms] : S_chunkB.ok Try.prog 45 := by
 rintro args H nx Post ⟨o, k, c, rfl, rfl, rfl, ⟨h1, h2⟩, h⟩
 exact fnT_sound tys_ok fns_ok cPg_det cCb_ok mixed (chunkB_t o k c h1 h2 h)
end Go.Proofs.Ytajieadpaeggcaa

end
