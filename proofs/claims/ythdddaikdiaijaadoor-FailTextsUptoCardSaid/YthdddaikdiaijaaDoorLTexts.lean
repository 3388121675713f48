/- The plain law of FailTexts. -/
import Derived.Test.YthdddaikdiaijaaDoorLRef
namespace Go.Proofs.YthdddaikdiaijaaDoor
open Go.Rf Go.Lib
theorem txt_len {f : Fail} (h : i64F f) : (txt f).length ≤ 100 := by
  have h0 := wrd_len h.1
  have h1 := itoa_len h.2.1
  have h2 := itoa_len h.2.2
  unfold txt
  split
  · simp
  · rw [jn3]
    simp
    omega
theorem eqF3 (f : Fail) : (f.1 == f.1 && (f.2.1 == f.2.1 && f.2.2 == f.2.2)) = true := by simp
theorem fail_texts {n : Nat} (hn : 1048700 ≤ n) {f : Fail} (hf : i64F f) {s : Bytes} (hs : s.length ≤ 1048576) : f6 n f (bs s) = some true := by
  have ht := txt_len hf
  have hback : f24 n (bs (txt f)) = some (if mayB f = true then (f, (0 : Int)) else (zF, (30 : Int))) := by
    rcases parse_go (n := n) (by omega) (s := txt f) (by omega) with ⟨g, hg, hm, e, h⟩ | ⟨hno, h⟩
    · have := txt_inj hf hg e
      subst this
      rw [h, if_pos hm]
    · rw [h]
      by_cases hm : mayB f = true
      · exact (hno f hf hm rfl).elim
      · rw [if_neg hm]
  rw [f6_eq, text_go n hf]
  simp only [Option.bind_some]
  rw [hback]
  simp only [Option.bind_some, f16_eq, may_eq, f7L, cond_true]
  rw [text_ref (by omega) hf]
  simp only [Option.bind_some, beq_self_eq_true, cond_true]
  rcases parse_go (n := n) (by omega) hs with ⟨g, hg, hm, e, h⟩ | ⟨hno, h⟩
  · rcases parse_ref hn hs with ⟨g', hg', hm', e', h'⟩ | ⟨hno', _⟩
    · have := txt_inj hg hg' (e.symm.trans e')
      subst this
      rw [h, h']
      simp only [Option.bind_some, beq_self_eq_true, Bool.and_self, cond_true]
      cases hf0 : mayB f <;> simp
    · exact (hno' g hg hm e).elim
  · rcases parse_ref hn hs with ⟨g', hg', hm', e', _⟩ | ⟨_, h'⟩
    · exact (hno g' hg' hm' e').elim
    · rw [h, h']
      simp only [Option.bind_some, beq_self_eq_true, Bool.and_self, cond_true]
      cases hf0 : mayB f <;> simp
end Go.Proofs.YthdddaikdiaijaaDoor
