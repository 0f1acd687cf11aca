/- The walk of aediculelaw43.ProbeNil. -/
import Derived.Test.YtnpicaigdfnmfaaGreatPnPbF
import Derived.Test.YtnpicaigdfnmfaaGreatPnZa
set_option linter.unusedVariables false
set_option linter.unusedSimpArgs false
set_option maxRecDepth 100000
set_option maxHeartbeats 16000000
open Go.Proofs.Tryz
namespace Go.Proofs.YtnpicaigdfnmfaaGreat.Pr
open Go.RowKit
theorem probeNil(w:World)(x:Int)(x0:0≤x)(x1:x≤4294967295)(n:Int)(n0: -9223372036854775808≤n)(n1:n≤9223372036854775807):Calls Tryz.prog 5 #[.int .u32 x,.int .i64 n] w fun r w'=>r=.returned (.bool true)∧Below w.heap.size w w':=by
 generalize hPQ:(fun(r:Ending) (w':World)=>r=.returned (.bool true)∧Below w.heap.size w w')=PQ;have HPQ:Hid (∀V,Below w.heap.size w V→PQ (.returned (.bool true)) V):=Lh fun V h=>by rw[←hPQ];exact⟨rfl,h⟩
 clear hPQ x0 x1 n0 n1;go_enter func5,ntmps5;go_wp2_with fail;refine(new_nil w n).mono ?_;rintro r w1 ⟨rfl,rfl⟩;go_wp2_with fail;refine(go_nil w n).mono ?_;rintro r w1 ⟨rfl,hb1⟩;have hb2:=hb1.trans (((Below.refl w1.heap.size w1).alloc (Nat.le_refl _) (.cells #[.int .u8 0,.int .u32 0,.int .i64 0] 65)).mono hb1.size);obtain⟨d0,d1,d2,_⟩:=hit_cells (heap_alloc_new w1 (.cells #[.int .u8 0,.int .u32 0,.int .i64 0] 65));obtain⟨b,hb⟩:∃y,w1.heap.size=y:=⟨_,rfl⟩;obtain⟨w2,hw2⟩:∃y,w1.alloc (.cells #[.int .u8 0,.int .u32 0,.int .i64 0] 65)=y:=⟨_,rfl⟩;rw[hw2] at hb2 d0 d1 d2;rw[hb] at d0 d1 d2;have HB:=Lh hb2;have HW:=Lh hw2;have HS:=Lh hb;have HD:=Lh (And.intro d0 (And.intro d1 d2));clear hb1 hb2 hw2 hb d0 d1 d2;unfold hit;go_upto_region 4 with fail;rw[HW.out,HS.out];obtain⟨d0,d1,d2⟩:=HD.out;clear HW HS HD;go_wp2_with fail;clear d0 d1 d2;refine(break_nil w2 x).mono ?_;rintro r w3 ⟨rfl,rfl⟩;go_wp2_with fail;refine(clear_nil w2 x).mono ?_;rintro r w3 ⟨rfl,rfl⟩;go_wp2_with fail;refine(watch_nil w2 x n).mono ?_;rintro r w3 ⟨rfl,rfl⟩;go_wp2_with fail;refine(counts_nil w2).mono ?_;rintro r w3 ⟨rfl,rfl⟩;go_wp2_with fail;refine(trail_nil w2).mono ?_;rintro r w3 ⟨rfl,rfl⟩;go_wp2_with fail;refine(tallies_nil w2 _ _).mono ?_;rintro r w3 ⟨rfl,rfl⟩;go_wp2_with fail;refine(alive43 w2).mono ?_;rintro r w3 ⟨rfl,hb3⟩;have HE:=Lh (HPQ.out w3 (HB.out.trans (hb3.mono HB.out.size)));clear hb3 HB HPQ;go_wp2
 first|exact HE.out|(go_ret;exact HE.out)
end Go.Proofs.YtnpicaigdfnmfaaGreat.Pr
