/-
  Calc, whole: what it computes, in the reference.
-/
import Derived.Test.YtnamikhhbedpeaaWCalcD
import Derived.Test.YtnamikhhbedpeaaWCalcSA
import Derived.Test.YtnamikhhbedpeaaWCalcSB1
import Derived.Test.YtnamikhhbedpeaaWCalcSB2
import Derived.Test.YtnamikhhbedpeaaWCalcSC
import Derived.Test.YtnamikhhbedpeaaWCalcSD
import Derived.Test.YtnamikhhbedpeaaWCalcSE
import Derived.Test.YtnamikhhbedpeaaWCalcSF
import Derived.Test.YtnamikhhbedpeaaWCalcSG
import Derived.Test.YtnamikhhbedpeaaWCalcSH
namespace Go.Proofs.Ytnamikhhbedpeaa
open Go.RowKit

theorem specCalc (op k n : Int) (s : ByteArray) (k' n' : Int) (s' : ByteArray) (w : World) (ws : s.size ≤ 9223372036854775807) (ws' : s'.size ≤ 9223372036854775807) (wn : (Lit.int .i64 n).wf = true) (wn' : (Lit.int .i64 n').wf = true) :
    Calls Try.prog 45 #[.int .i64 op, .agg #[.int .i64 k, .int .i64 n, .string s], .agg #[.int .i64 k', .int .i64 n', .string s']] w fun e w' => e = .returned (.tuple #[.agg #[.int .i64 (clK op k n s k' n' s'), .int .i64 (clN op k n s k' n' s'), .string (clS op k n s k' n' s')], .int .i64 (clE op k n s k' n' s')]) ∧ Below w.heap.size w w' := by
  by_cases h1 : op < 1
  · exact spec_lo op k n s k' n' s' ws ws' h1 w
  by_cases h2 : 14 < op
  · exact spec_hi op k n s k' n' s' ws ws' h2 w
  cases ha : valOk k n s
  · exact spec_badA op k n s k' n' s' ws ws' (by omega) (by omega) ha w
  cases hb : valOk k' n' s'
  · exact spec_badB op k n s k' n' s' ws ws' (by omega) (by omega) ha hb w
  by_cases h3 : op ≤ 2
  · have h4 : op = 1 ∨ op = 2 := by omega
    rcases h4 with rfl | rfl
    · rcases valOk_cases ha with ⟨rfl, rfl, rfl⟩ | ⟨rfl, rfl⟩ | ⟨rfl, rfl, _⟩ | ⟨rfl, rfl | rfl, rfl⟩
      · rcases valOk_cases hb with ⟨rfl, rfl, rfl⟩ | ⟨rfl, rfl⟩ | ⟨rfl, rfl, _⟩ | ⟨rfl, rfl | rfl, rfl⟩
        · exact spec_lg1_nn w
        · exact spec_lg1_no _ _ _ ws' hb (by decide) (by decide) w
        · exact spec_lg1_no _ _ _ ws' hb (by decide) (by decide) w
        · exact spec_lg1_nf w
        · exact spec_lg1_nt w
      · exact spec_lg1_o _ _ _ _ _ _ ws ws' ha hb (by decide) (by decide) w
      · exact spec_lg1_o _ _ _ _ _ _ ws ws' ha hb (by decide) (by decide) w
      · rcases valOk_cases hb with ⟨rfl, rfl, rfl⟩ | ⟨rfl, rfl⟩ | ⟨rfl, rfl, _⟩ | ⟨rfl, rfl | rfl, rfl⟩
        · exact spec_lg1_fn w
        · exact spec_lg1_fo _ _ _ ws' hb (by decide) (by decide) w
        · exact spec_lg1_fo _ _ _ ws' hb (by decide) (by decide) w
        · exact spec_lg1_ff w
        · exact spec_lg1_ft w
      · rcases valOk_cases hb with ⟨rfl, rfl, rfl⟩ | ⟨rfl, rfl⟩ | ⟨rfl, rfl, _⟩ | ⟨rfl, rfl | rfl, rfl⟩
        · exact spec_lg1_tn w
        · exact spec_lg1_to _ _ _ ws' hb (by decide) (by decide) w
        · exact spec_lg1_to _ _ _ ws' hb (by decide) (by decide) w
        · exact spec_lg1_tf w
        · exact spec_lg1_tt w
    · rcases valOk_cases ha with ⟨rfl, rfl, rfl⟩ | ⟨rfl, rfl⟩ | ⟨rfl, rfl, _⟩ | ⟨rfl, rfl | rfl, rfl⟩
      · rcases valOk_cases hb with ⟨rfl, rfl, rfl⟩ | ⟨rfl, rfl⟩ | ⟨rfl, rfl, _⟩ | ⟨rfl, rfl | rfl, rfl⟩
        · exact spec_lg2_nn w
        · exact spec_lg2_no _ _ _ ws' hb (by decide) (by decide) w
        · exact spec_lg2_no _ _ _ ws' hb (by decide) (by decide) w
        · exact spec_lg2_nf w
        · exact spec_lg2_nt w
      · exact spec_lg2_o _ _ _ _ _ _ ws ws' ha hb (by decide) (by decide) w
      · exact spec_lg2_o _ _ _ _ _ _ ws ws' ha hb (by decide) (by decide) w
      · rcases valOk_cases hb with ⟨rfl, rfl, rfl⟩ | ⟨rfl, rfl⟩ | ⟨rfl, rfl, _⟩ | ⟨rfl, rfl | rfl, rfl⟩
        · exact spec_lg2_fn w
        · exact spec_lg2_fo _ _ _ ws' hb (by decide) (by decide) w
        · exact spec_lg2_fo _ _ _ ws' hb (by decide) (by decide) w
        · exact spec_lg2_ff w
        · exact spec_lg2_ft w
      · rcases valOk_cases hb with ⟨rfl, rfl, rfl⟩ | ⟨rfl, rfl⟩ | ⟨rfl, rfl, _⟩ | ⟨rfl, rfl | rfl, rfl⟩
        · exact spec_lg2_tn w
        · exact spec_lg2_to _ _ _ ws' hb (by decide) (by decide) w
        · exact spec_lg2_to _ _ _ ws' hb (by decide) (by decide) w
        · exact spec_lg2_tf w
        · exact spec_lg2_tt w
  by_cases h4 : op ≤ 8
  · by_cases ka : k = 0
    · subst ka
      by_cases kb : k' = 0
      · subst kb
        exact spec_cmp_nn op n s n' s' ws ws' (by omega) h4 ha hb w
      · exact spec_cmp_an op n s k' n' s' ws ws' (by omega) h4 ha hb kb w
    by_cases kb : k' = 0
    · subst kb
      exact spec_cmp_bn op k n s n' s' ws ws' (by omega) h4 ha hb ka w
    by_cases kk : k = k'
    · subst kk
      have h5 : op = 3 ∨ op = 4 ∨ op = 5 ∨ op = 6 ∨ op = 7 ∨ op = 8 := by omega
      rcases h5 with rfl | rfl | rfl | rfl | rfl | rfl
      · exact spec_cmp3 k n s n' s' ws ws' ha hb ka w
      · exact spec_cmp4 k n s n' s' ws ws' ha hb ka w
      · exact spec_cmp5 k n s n' s' ws ws' ha hb ka w
      · exact spec_cmp6 k n s n' s' ws ws' ha hb ka w
      · exact spec_cmp7 k n s n' s' ws ws' ha hb ka w
      · exact spec_cmp8 k n s n' s' ws ws' ha hb ka w
    · exact spec_cmp_no op k n s k' n' s' ws ws' (by omega) h4 ha hb ka kb kk w
  by_cases h5 : op = 9
  · subst h5
    by_cases ka : k ≠ 0 ∧ k ≠ 2
    · exact spec_cat_oa _ _ _ _ _ _ ws ws' ha hb ka.1 ka.2 w
    by_cases kb : k' ≠ 0 ∧ k' ≠ 2
    · rcases valOk_cases ha with ⟨rfl, rfl, rfl⟩ | ⟨rfl, rfl⟩ | ⟨rfl, rfl, _⟩ | ⟨rfl, _, rfl⟩
      · exact spec_cat_no _ _ _ ws' hb kb.1 kb.2 w
      · exact absurd (by decide) ka
      · exact spec_cat_so _ ws ha _ _ _ ws' hb kb.1 kb.2 w
      · exact absurd (by decide) ka
    rcases valOk_cases ha with ⟨rfl, rfl, rfl⟩ | ⟨rfl, rfl⟩ | ⟨rfl, rfl, _⟩ | ⟨rfl, _, rfl⟩
    · rcases valOk_cases hb with ⟨rfl, rfl, rfl⟩ | ⟨rfl, rfl⟩ | ⟨rfl, rfl, _⟩ | ⟨rfl, _, rfl⟩
      · exact spec_cat_nn w
      · exact absurd (by decide) kb
      · exact spec_cat_ns _ ws' hb w
      · exact absurd (by decide) kb
    · exact absurd (by decide) ka
    · rcases valOk_cases hb with ⟨rfl, rfl, rfl⟩ | ⟨rfl, rfl⟩ | ⟨rfl, rfl, _⟩ | ⟨rfl, _, rfl⟩
      · exact spec_cat_sn _ ws ha w
      · exact absurd (by decide) kb
      · by_cases hl : 200 < s.size + s'.size
        · exact spec_cat_long _ _ ws ws' ha hb hl w
        · exact spec_cat _ _ ws ws' ha hb hl w
      · exact absurd (by decide) kb
    · exact absurd (by decide) ka
  have hlo : 10 ≤ op := by omega
  have hhi : op ≤ 14 := by omega
  by_cases ka : k ≠ 0 ∧ k ≠ 1
  · exact spec_ar_oa op k n s k' n' s' ws ws' hlo hhi ha hb ka.1 ka.2 w
  by_cases kb : k' ≠ 0 ∧ k' ≠ 1
  · rcases valOk_cases ha with ⟨rfl, rfl, rfl⟩ | ⟨rfl, rfl⟩ | ⟨rfl, rfl, _⟩ | ⟨rfl, _, rfl⟩
    · exact spec_ar_no op _ _ _ ws' hlo hhi hb kb.1 kb.2 w
    · exact spec_ar_io op _ _ _ _ ws' hlo hhi hb kb.1 kb.2 w
    · exact absurd (by decide) ka
    · exact absurd (by decide) ka
  rcases valOk_cases ha with ⟨rfl, rfl, rfl⟩ | ⟨rfl, rfl⟩ | ⟨rfl, rfl, _⟩ | ⟨rfl, _, rfl⟩
  · rcases valOk_cases hb with ⟨rfl, rfl, rfl⟩ | ⟨rfl, rfl⟩ | ⟨rfl, rfl, _⟩ | ⟨rfl, _, rfl⟩
    · exact spec_ar_nn op hlo hhi w
    · exact spec_ar_ni op _ hlo hhi w
    · exact absurd (by decide) kb
    · exact absurd (by decide) kb
  · rcases valOk_cases hb with ⟨rfl, rfl, rfl⟩ | ⟨rfl, rfl⟩ | ⟨rfl, rfl, _⟩ | ⟨rfl, _, rfl⟩
    · exact spec_ar_in op _ hlo hhi w
    · have h6 : op = 10 ∨ op = 11 ∨ op = 12 ∨ op = 13 ∨ op = 14 := by omega
      rcases h6 with rfl | rfl | rfl | rfl | rfl
      · cases hok : addOk n n'
        · exact spec_AddNum_false n n' wn wn' hok w
        · exact spec_AddNum_true n n' wn wn' hok w
      · cases hok : subOk n n'
        · exact spec_SubNum_false n n' wn wn' hok w
        · exact spec_SubNum_true n n' wn wn' hok w
      · cases hok : mulOk n n'
        · exact spec_MulNum_false n n' wn wn' hok w
        · exact spec_MulNum_true n n' wn wn' hok w
      · by_cases z : n' = 0
        · subst z
          exact spec_d13_zero n w
        by_cases m : n' = -1
        · subst m
          by_cases mm : n = -9223372036854775808
          · subst mm
            exact spec_d13_min w
          · exact spec_d13_one n wn mm w
        · cases hc : (n == -9223372036854775808)
          · exact spec_d13_b n n' wn wn' z m hc w
          · exact spec_d13_a n n' wn wn' z m hc w
      · by_cases z : n' = 0
        · subst z
          exact spec_d14_zero n w
        by_cases m : n' = -1
        · subst m
          exact spec_d14_one n wn w
        · exact spec_d14 n n' wn wn' z m w
    · exact absurd (by decide) kb
    · exact absurd (by decide) kb
  · exact absurd (by decide) ka
  · exact absurd (by decide) ka
end Go.Proofs.Ytnamikhhbedpeaa
