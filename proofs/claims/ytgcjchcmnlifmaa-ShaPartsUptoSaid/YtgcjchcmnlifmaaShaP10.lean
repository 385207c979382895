/- Functions that leave what was there as it was. -/
import Derived.Test.YtgcjchcmnlifmaaShaP9
namespace Go.Sh
open Go Go.Abs
theorem pre_of_eq {H H' : AHeap} (h : H' = H) : H <+: H' := by rw [h]; exact List.prefix_refl _

theorem sha_Words.quiet {args : List AVal} {H : AHeap} {r : AVal} {H' : AHeap} (h : S_sha_Words args H r H') : H <+: H' := by
  unfold S_sha_Words at h; grind [pre_app, pre_of_eq]
theorem sha_constants.quiet {args : List AVal} {H : AHeap} {r : AVal} {H' : AHeap} (h : S_sha_constants args H r H') : H <+: H' := by
  unfold S_sha_constants at h; grind [pre_app, pre_of_eq]
theorem sha_work.quiet {args : List AVal} {H : AHeap} {r : AVal} {H' : AHeap} (h : S_sha_work args H r H') : H <+: H' := by
  unfold S_sha_work at h; grind [pre_app, pre_of_eq]
theorem sha_tail.quiet {args : List AVal} {H : AHeap} {r : AVal} {H' : AHeap} (h : S_sha_tail args H r H') : H <+: H' := by
  unfold S_sha_tail at h; grind [pre_app, pre_of_eq]
theorem sha_digest.quiet {args : List AVal} {H : AHeap} {r : AVal} {H' : AHeap} (h : S_sha_digest args H r H') : H <+: H' := by
  unfold S_sha_digest at h; grind [pre_app, pre_of_eq]
theorem sha_Sum.quiet {args : List AVal} {H : AHeap} {r : AVal} {H' : AHeap} (h : S_sha_Sum args H r H') : H <+: H' := by
  unfold S_sha_Sum at h; grind [pre_app, pre_of_eq]
theorem sha_Hex.quiet {args : List AVal} {H : AHeap} {r : AVal} {H' : AHeap} (h : S_sha_Hex args H r H') : H <+: H' := by
  unfold S_sha_Hex at h; grind [pre_app, pre_of_eq]
theorem sha_New.quiet {args : List AVal} {H : AHeap} {r : AVal} {H' : AHeap} (h : S_sha_New args H r H') : H <+: H' := by
  unfold S_sha_New at h; grind [pre_app, pre_of_eq]
theorem sha_Hasher_Digest.quiet {args : List AVal} {H : AHeap} {r : AVal} {H' : AHeap} (h : S_sha_Hasher_Digest args H r H') : H <+: H' := by
  unfold S_sha_Hasher_Digest at h; grind [pre_app, pre_of_eq]
theorem sha_Pad.quiet {args : List AVal} {H : AHeap} {r : AVal} {H' : AHeap} (h : S_sha_Pad args H r H') : H <+: H' := by
  unfold S_sha_Pad at h; grind [pre_app, pre_of_eq]
theorem sha_Work.quiet {args : List AVal} {H : AHeap} {r : AVal} {H' : AHeap} (h : S_sha_Work args H r H') : H <+: H' := by
  unfold S_sha_Work at h; grind [pre_app, pre_of_eq]
theorem sha_Constant.quiet {args : List AVal} {H : AHeap} {r : AVal} {H' : AHeap} (h : S_sha_Constant args H r H') : H <+: H' := by
  unfold S_sha_Constant at h; grind [pre_app, pre_of_eq]
theorem cellaretlaw03_awake.quiet {args : List AVal} {H : AHeap} {r : AVal} {H' : AHeap} (h : S_cellaretlaw03_awake args H r H') : H <+: H' := by
  unfold S_cellaretlaw03_awake at h; grind [pre_app, pre_of_eq]
theorem cellaretlaw03_ShaHex.quiet {args : List AVal} {H : AHeap} {r : AVal} {H' : AHeap} (h : S_cellaretlaw03_ShaHex args H r H') : H <+: H' := by
  unfold S_cellaretlaw03_ShaHex at h; grind [pre_app, pre_of_eq]
theorem cellaretlaw03_ShaParts.quiet {args : List AVal} {H : AHeap} {r : AVal} {H' : AHeap} (h : S_cellaretlaw03_ShaParts args H r H') : H <+: H' := by
  unfold S_cellaretlaw03_ShaParts at h; grind [pre_app, pre_of_eq]
end Go.Sh
