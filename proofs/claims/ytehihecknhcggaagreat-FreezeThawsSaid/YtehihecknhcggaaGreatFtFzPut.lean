/- FzPut, FzQ, FzJ, MayG in one text. -/
import Derived.Test.YtehihecknhcggaaGreatFtFzLg
import Derived.Deep.MidRow
import Derived.Test.YtehihecknhcggaaGreatFtGraG
import Derived.BigQuiet
import Derived.Test.YtehihecknhcggaaGreatFtEnvW
import Derived.Test.YtehihecknhcggaaGreatFtZa
set_option linter.unusedVariables false
set_option linter.unusedSimpArgs false
set_option maxRecDepth 100000
set_option maxHeartbeats 16000000
open Go.Proofs.Tryz
namespace Go.Proofs.YtehihecknhcggaaGreat.Fz
open Go.RowKit Word
theorem Bld.lt{w:World}{B b:Nat}{s:ByteArray}(h:Bld w B b s):b<w.heap.size:=by
 rcases h with⟨_,v,hv,_⟩|⟨_,v,hv,_⟩<;>exact lQ hv
def hdL(x:Fr):List UInt8:=[65,70,90,49]++(pL x.pc 4++(bytesL 4 (regL x.r)++(manL x.m++pL x.sp.length 2)))
def ptRel(w0:World)(b:Nat)(x:Fr)(vi:Value)(wr:World):Prop:=∃(i:Nat) (s:ByteArray),i≤x.sp.length∧vi=.int .i64 i∧Bld wr b b s∧tl s=hdL x++(x.sp.take i).flatMap pageL∧s.size=77+262*i∧Below w0.heap.size w0 wr∧b≤wr.heap.size
theorem put{w:World}{x:Fr}{ev pv sv:Value}(h:FrIn w x ev pv sv)(ho:x.ok)(hm:x.may)(hl:x.sp.length<65536)(he:x.m.ext=[])(hq:x.m.ports=[]):
  Calls Tryz.prog 74 #[.agg (x.arr ev pv sv)] w fun e w'=>∃s,e=.returned (.tuple #[.string s,.int .i64 0])∧tl s=putL' x∧Below w.heap.size w w':=by
 obtain⟨so,sc,rfl⟩:=h.s.form;obtain⟨eo,ec,hev⟩:=h.m.e.form;obtain⟨po,pc',hpv⟩:=h.m.p.form;rw[he] at hev;rw[hq] at hpv;simp only[List.length_nil] at hev hpv;subst hev;subst hpv;have hb:Below w.heap.size w (w.alloc (.cells (x.arr (.slice eo 0 ec) (.slice po 0 pc') (.slice so x.sp.length sc)) 52)):=Ba _;have hx:FBox (w.alloc (.cells (x.arr (.slice eo 0 ec) (.slice po 0 pc') (.slice so x.sp.length sc)) 52)) w.heap.size x (.slice eo 0 ec) (.slice po 0 pc') (.slice so x.sp.length sc):=heap_alloc_new w _;have h1:=h.below hb;obtain⟨w0,hw0⟩:∃w0,w.alloc (.cells (x.arr (.slice eo 0 ec) (.slice po 0 pc') (.slice so x.sp.length sc)) 52)=w0:=⟨_,rfl⟩;obtain⟨xb,hxb⟩:∃b,w.heap.size=b:=⟨_,rfl⟩;rw[hw0] at hb hx h1;rw[hxb] at hx;have HB0:=Lh hb;have HX:=Lh hx;have HI:=Lh fun V (hV:Below w0.heap.size w0 V)=>h1.below hV
 have HC:Hid (∀V,Below w0.heap.size w0 V→∀j v,(x.arr (.slice eo 0 ec) (.slice po 0 pc') (.slice so x.sp.length sc))[j]? =some v→V.cell? ⟨xb,j,none⟩=some v):=Lh fun V hV j v hv=>(HX.out.keep (Mod.of_below hV fun _=>False) id).cell j v hv
 have HCk:=Lh (check h1 ho hm (by omega));have HM:=Lh hm;have HO:=Lh ho;have HL:=Lh hl;have HE:=Lh (And.intro he hq);clear h h1 ho hm hl he hq hb hx;generalize hPQ:(fun(e:Ending) (w':World)=>∃s,e=.returned (.tuple #[.string s,.int .i64 0])∧tl s=putL' x∧Below w.heap.size w w')=PQ;have HPQ:Hid (∀s V,tl s=putL' x→Below w0.heap.size w0 V→PQ (.returned (.tuple #[.string s,.int .i64 0])) V):=Lh fun s V h1 h2=>by rw[←hPQ];exact⟨s,rfl,h1,bQ HB0.out h2⟩
 clear hPQ;have hra:w0.rangeAt xb 0 (x.arr (.slice eo 0 ec) (.slice po 0 pc') (.slice so x.sp.length sc)).toList:=fun j v hv=>by rw[Nat.zero_add];exact HX.out.cell j v (by rw[←Array.getElem?_toList];exact hv)
 have HRa:=Lh hra;have hsi:(Tryz.prog.info? 52).map (·.size)=some (x.arr (.slice eo 0 ec) (.slice po 0 pc') (.slice so x.sp.length sc)).toList.length:=by kernel_rfl
 have HSi:=Lh hsi;clear hra hsi;unfold Fr.arr at hw0 HCk HRa HSi⊢;go_enter func74,ntmps74;go_upto_region 1 with(fail);try rw[hw0]
 try rw[hxb]
 clear hw0 hxb;go_wp2_with (refine wpList_load_mid rfl 52 _ rfl xb 0 rfl _ _ HRa.out Tryz.underlying52 rfl HSi.out ?_);refine HCk.out.mono ?_;rintro e w1' ⟨rfl,hb1⟩;have hbb:Below w1'.heap.size w1' (w1'.alloc (.cells #[.pointer none,.slice none 0 0] 300)):=Ba _;have hxx:=heap_alloc_new w1' (.cells #[.pointer none,.slice none 0 0] 300);have hbl:Bld (w1'.alloc (.cells #[.pointer none,.slice none 0 0] 300)) w1'.heap.size w1'.heap.size ByteArray.empty:=Bld.new hxx (Nat.le_refl _);have HB1:=Lh (bQ hb1 hbb);have HBl:=Lh hbl;have hsz:w0.heap.size≤w1'.heap.size:=hb1.size;have hlb:w1'.heap.size≤(w1'.alloc (.cells #[.pointer none,.slice none 0 0] 300)).heap.size:=hbb.size;obtain⟨w1,hw1⟩:∃y,w1'.alloc (.cells #[.pointer none,.slice none 0 0] 300)=y:=⟨_,rfl⟩;obtain⟨b,hbe⟩:∃y,w1'.heap.size=y:=⟨_,rfl⟩;rw[hw1] at HB1 HBl hlb;rw[hbe] at HBl hsz hlb;have HSz:=Lh hsz;have HLb:=Lh hlb;clear hb1 hbb hxx hbl hsz HCk;go_wp2_with fail;try rw[hw1]
 try rw[hbe]
 clear hw1 hbe;have HS:Hid (∀V,Below w1.heap.size w1 V→V.cell? ⟨xb,0,none⟩=some (.int .u32 x.m.pages)∧V.cell? ⟨xb,1,none⟩=some (.slice eo 0 ec)∧V.cell? ⟨xb,2,none⟩=some (.slice po 0 pc')∧V.cell? ⟨xb,3,none⟩=some (.bool x.m.con)∧V.cell? ⟨xb,20,none⟩=some (.int .u32 x.pc)∧V.cell? ⟨xb,21,none⟩=some (.slice so x.sp.length sc)∧V.cell? ⟨xb,22,none⟩=some (.string x.text)∧True):=Lh fun V hV=>by
  have c:=HC.out V (bQ HB1.out hV);exact⟨c 0 _ rfl,c 1 _ rfl,c 2 _ rfl,c 3 _ rfl,c 20 _ rfl,c 21 _ rfl,c 22 _ rfl,trivial⟩
 have HS0:Hid (∀V,Below w0.heap.size w0 V→V.cell? ⟨xb,0,none⟩=some (.int .u32 x.m.pages)∧V.cell? ⟨xb,1,none⟩=some (.slice eo 0 ec)∧V.cell? ⟨xb,2,none⟩=some (.slice po 0 pc')∧V.cell? ⟨xb,3,none⟩=some (.bool x.m.con)∧V.cell? ⟨xb,20,none⟩=some (.int .u32 x.pc)∧V.cell? ⟨xb,21,none⟩=some (.slice so x.sp.length sc)∧V.cell? ⟨xb,22,none⟩=some (.string x.text)∧True):=Lh fun V hV=>by
  have c:=HC.out V hV;exact⟨c 0 _ rfl,c 1 _ rfl,c 2 _ rfl,c 3 _ rfl,c 20 _ rfl,c 21 _ rfl,c 22 _ rfl,trivial⟩
 have HPc:Hid (fitN x.pc 4):=Lh ⟨HO.out.c.1,by have:=HO.out.c.2;show x.pc<256 ^ 4;omega⟩;have HRg:Hid (∀V,Below w1.heap.size w1 V→Calls Tryz.prog 172 #[.int .i64 4,.slice (some ⟨xb,5,none⟩) 15 15] V fun e w'=>∃s,e=.returned (.string s)∧tl s=bytesL 4 (regL x.r)∧Below V.heap.size V w'):=Lh fun V hV=>by
  have c:=HC.out V (bQ HB1.out hV);refine bytes (w:=V) 4 (.inr (.inr rfl)) (regL x.r) (by simp[regL]) (fun z hz=> ?_) (a:=some ⟨xb,5,none⟩) (c:=15) fun j hj=>⟨xb,5,rfl, ?_⟩
  ·have:∃k,z=x.r k:=by
    simp[regL] at hz;rcases hz with h|h|h|h|h|h|h|h|h|h|h|h|h|h|h<;>exact⟨_,h⟩
   obtain⟨k,rfl⟩:=this;have:=HO.out.r k;exact⟨this.1,by show x.r k<256 ^ 4;omega⟩
  ·have hj:j<15:=hj;have hq:=c (4+(j+1)) _ (arr_getr x _ _ _ (j+1) (by omega));rw[show 4+(j+1)=5+j by omega] at hq;rw[hq]
   congr 2
   have:j=0∨j=1∨j=2∨j=3∨j=4∨j=5∨j=6∨j=7∨j=8∨j=9∨j=10∨j=11∨j=12∨j=13∨j=14:=by omega
   rcases this with rfl|rfl|rfl|rfl|rfl|rfl|rfl|rfl|rfl|rfl|rfl|rfl|rfl|rfl|rfl<;>rfl
 have HMf:Hid (∀V,Below w1.heap.size w1 V→Calls Tryz.prog 173 #[.agg #[.int .u32 x.m.pages,.slice eo 0 ec,.slice po 0 pc',.bool x.m.con]] V fun e w'=>∃s,e=.returned (.string s)∧tl s=pL x.m.pages 4++(pL 0 1++(pL 0 1++pL (bit01 x.m.con) 1))∧Below V.heap.size V w'):=Lh fun V hV=>manifest0 ⟨HO.out.m.p0,by have:=HO.out.m.p1;show x.m.pages<256 ^ 4;omega⟩
 have HLn:Hid (fitN x.sp.length 2):=Lh ⟨by omega,by have:=HL.out;show(x.sp.length:Int)<256 ^ 2;omega⟩;have iwl:IntKind.u32.wrap (x.sp.length:Int)=x.sp.length:=by have:=HL.out;rw[IntKind.wrap_u32];omega
 go_cut [35] (fun _ wx=>ptRel w0 b x (.int .i64 0) wx)
 case first=>
  refine B (fun V=>V.cell? ⟨xb,0,none⟩=some (.int .u32 x.m.pages)∧V.cell? ⟨xb,1,none⟩=some (.slice eo 0 ec)∧V.cell? ⟨xb,2,none⟩=some (.slice po 0 pc')∧V.cell? ⟨xb,3,none⟩=some (.bool x.m.con)∧V.cell? ⟨xb,20,none⟩=some (.int .u32 x.pc)∧V.cell? ⟨xb,21,none⟩=some (.slice so x.sp.length sc)∧V.cell? ⟨xb,22,none⟩=some (.string x.text)∧True) (HS.out _ Br.drew) ?_;intro wd hwd hS;have HBd:Hid (Below w1.heap.size w1 wd):=Lh (by subst hwd;exact Br.drew);clear hwd;refine T 0 hS ?_;refine T 1 hS ?_;refine T 5 hS ?_;refine T 6 hS ?_;refine T 9 hS ?_;refine T 10 hS ?_;refine T 13 hS ?_;refine T 14 hS ?_;refine T 15 hS ?_;refine T 16 hS ?_;refine U2 2 17 (fun K' hK=> ?g1) (fun K' hK=> ?g2)
  case' g1=>
   go_simp;have hb2:=bQ HBd.out (Br.alloc (Nat.le_refl _) (.cells #[.int .u32 x.pc] 41));have hx2:=heap_alloc_new wd (.cells #[.int .u32 x.pc] 41);have hr2:=(Below.refl wd.heap.size wd).alloc (Nat.le_refl _) (.cells #[.int .u32 x.pc] 41);obtain⟨q2,hq2⟩:∃q,wd.heap.size=q:=⟨_,rfl⟩;obtain⟨wa,hwa⟩:∃y,wd.alloc (.cells #[.int .u32 x.pc] 41)=y:=⟨_,rfl⟩;rw[hwa] at hb2 hx2 hr2⊢;rw[hq2] at hx2⊢;have HBa:=Lh hb2;have HX2:=Lh hx2;have hSa:=HS.out _ hb2;clear hb2 hx2 hwa hq2 hr2;refine V hK hSa ?_;clear hK K';refine U2 3 17 (fun K' hK=> ?g3) (fun K' hK=> ?g4)
  case' g3=>
   go_simp;go_at_call 172;refine(bytesAt 4 (.inr (.inr rfl)) HPc.out HX2.out).mono ?_;rintro e v1 ⟨s1,rfl,hs1,hb1⟩;have HS1:=Lh hs1;have HBv1:=Lh (bQ HBa.out hb1);have hS1:=HS.out _ HBv1.out;clear hs1 hb1;refine V hK hS1 ?_;clear hK K';have z1:s1.size=4:=by rw[←tl_len,HS1.out];exact pL_len _ _ (by decide)
   have ov1:¬(9223372036854775807<({data:= #[65,70,90,49]}:ByteArray).size+s1.size):=by rw[z1];decide
   refine T 4 hS1 ?_;refine U2 7 17 (fun K' hK=> ?g5) (fun K' hK=> ?g6)
  case' g5=>
   go_simp;go_at_call 172;refine(HRg.out v1 HBv1.out).mono ?_;rintro e v2 ⟨s2,rfl,hs2,hb2⟩;have HS2:=Lh hs2;have HBv2:=Lh (bQ HBv1.out hb2);have hS2:=HS.out _ HBv2.out;clear hs2 hb2;refine V hK hS2 ?_;clear hK K';have z2:s2.size=60:=by rw[←tl_len,HS2.out,bytesL_len 4 (by decide)];rfl
   have ov2:¬(9223372036854775807<({data:= #[65,70,90,49]}++s1:ByteArray).size+s2.size):=by rw[ByteArray.size_append,z1,z2];decide
   refine T 8 hS2 ?_;refine U2 11 17 (fun K' hK=> ?g7) (fun K' hK=> ?g8)
  case' g7=>
   go_simp;go_at_call 173;refine(HMf.out v2 HBv2.out).mono ?_;rintro e v3 ⟨s3,rfl,hs3,hb3⟩;have HS3:=Lh hs3;have HBv3:=Lh (bQ HBv2.out hb3);have hS3:=HS.out _ HBv3.out;clear hs3 hb3;refine V hK hS3 ?_;clear hK K';have z3:s3.size=7:=by rw[←tl_len,HS3.out];simp[pL_len]
   have ov3:¬(9223372036854775807<({data:= #[65,70,90,49]}++s1++s2:ByteArray).size+s3.size):=by rw[ByteArray.size_append,ByteArray.size_append,z1,z2,z3];decide
   refine T 12 hS3 ?_;refine U 17 fun K' hK=> ?_
   go_simp;have hb7:=bQ HBv3.out (Br.alloc (Nat.le_refl _) (.cells #[.int .u32 (x.sp.length:Int)] 41));have hx7:=heap_alloc_new v3 (.cells #[.int .u32 (x.sp.length:Int)] 41);have hr7:=(Below.refl v3.heap.size v3).alloc (Nat.le_refl _) (.cells #[.int .u32 (x.sp.length:Int)] 41);obtain⟨q7,hq7⟩:∃q,v3.heap.size=q:=⟨_,rfl⟩;obtain⟨wx,hwx⟩:∃y,v3.alloc (.cells #[.int .u32 (x.sp.length:Int)] 41)=y:=⟨_,rfl⟩;rw[hwx] at hb7 hx7 hr7⊢;rw[hq7] at hx7⊢;have HBx:=Lh hb7;have HX7:=Lh hx7;have hSx:=HS.out _ hb7;clear hb7 hx7 hwx hq7 hr7;refine V hK hSx ?_;clear hK K';have HBe:=Lh HBx.out;have hSe:=HS.out _ HBe.out;have hwe:∃we,we=wx:=⟨_,rfl⟩;obtain⟨we,hwe⟩:=hwe;rw[←hwe] at HBe HX7 hSe⊢;clear hwe
  case' g8=>
   go_simp;have hb7:=bQ HBv2.out (Br.alloc (Nat.le_refl _) (.cells #[.int .u32 (x.sp.length:Int)] 41));have hx7:=heap_alloc_new v2 (.cells #[.int .u32 (x.sp.length:Int)] 41);have hr7:=(Below.refl v2.heap.size v2).alloc (Nat.le_refl _) (.cells #[.int .u32 (x.sp.length:Int)] 41);obtain⟨q7,hq7⟩:∃q,v2.heap.size=q:=⟨_,rfl⟩;obtain⟨wx,hwx⟩:∃y,v2.alloc (.cells #[.int .u32 (x.sp.length:Int)] 41)=y:=⟨_,rfl⟩;rw[hwx] at hb7 hx7 hr7⊢;rw[hq7] at hx7⊢;have HBx:=Lh hb7;have HX7:=Lh hx7;have hSx:=HS.out _ hb7;clear hb7 hx7 hwx hq7 hr7;refine V hK hSx ?_;clear hK K';refine U 11 fun K' hK=> ?_
   go_simp;go_at_call 173;refine(HMf.out wx HBx.out).mono ?_;rintro e v3 ⟨s3,rfl,hs3,hb3⟩;have HS3:=Lh hs3;have HBv3:=Lh (bQ HBx.out hb3);have hS3:=HS.out _ HBv3.out;have HX7:=Lh ((hb3.block _ (lQ HX7.out)).trans HX7.out);clear hs3 hb3;refine V hK hS3 ?_;clear hK K';have z3:s3.size=7:=by rw[←tl_len,HS3.out];simp[pL_len]
   have ov3:¬(9223372036854775807<({data:= #[65,70,90,49]}++s1++s2:ByteArray).size+s3.size):=by rw[ByteArray.size_append,ByteArray.size_append,z1,z2,z3];decide
   refine T 12 hS3 ?_;have HBe:=Lh HBv3.out;have hSe:=HS.out _ HBe.out;have hwe:∃we,we=v3:=⟨_,rfl⟩;obtain⟨we,hwe⟩:=hwe;rw[←hwe] at HBe HX7 hSe⊢;clear hwe
  case' g6=>
   go_simp;have hb7:=bQ HBv1.out (Br.alloc (Nat.le_refl _) (.cells #[.int .u32 (x.sp.length:Int)] 41));have hx7:=heap_alloc_new v1 (.cells #[.int .u32 (x.sp.length:Int)] 41);have hr7:=(Below.refl v1.heap.size v1).alloc (Nat.le_refl _) (.cells #[.int .u32 (x.sp.length:Int)] 41);obtain⟨q7,hq7⟩:∃q,v1.heap.size=q:=⟨_,rfl⟩;obtain⟨wx,hwx⟩:∃y,v1.alloc (.cells #[.int .u32 (x.sp.length:Int)] 41)=y:=⟨_,rfl⟩;rw[hwx] at hb7 hx7 hr7⊢;rw[hq7] at hx7⊢;have HBx:=Lh hb7;have HX7:=Lh hx7;have hSx:=HS.out _ hb7;clear hb7 hx7 hwx hq7 hr7;refine V hK hSx ?_;clear hK K';refine U 7 fun K' hK=> ?_
   go_simp;go_at_call 172;refine(HRg.out wx HBx.out).mono ?_;rintro e v2 ⟨s2,rfl,hs2,hb2⟩;have HS2:=Lh hs2;have HBv2:=Lh (bQ HBx.out hb2);have hS2:=HS.out _ HBv2.out;have HX7:=Lh ((hb2.block _ (lQ HX7.out)).trans HX7.out);clear hs2 hb2;refine V hK hS2 ?_;clear hK K';have z2:s2.size=60:=by rw[←tl_len,HS2.out,bytesL_len 4 (by decide)];rfl
   have ov2:¬(9223372036854775807<({data:= #[65,70,90,49]}++s1:ByteArray).size+s2.size):=by rw[ByteArray.size_append,z1,z2];decide
   refine T 8 hS2 ?_;refine U 11 fun K' hK=> ?_
   go_simp;go_at_call 173;refine(HMf.out v2 HBv2.out).mono ?_;rintro e v3 ⟨s3,rfl,hs3,hb3⟩;have HS3:=Lh hs3;have HBv3:=Lh (bQ HBv2.out hb3);have hS3:=HS.out _ HBv3.out;have HX7:=Lh ((hb3.block _ (lQ HX7.out)).trans HX7.out);clear hs3 hb3;refine V hK hS3 ?_;clear hK K';have z3:s3.size=7:=by rw[←tl_len,HS3.out];simp[pL_len]
   have ov3:¬(9223372036854775807<({data:= #[65,70,90,49]}++s1++s2:ByteArray).size+s3.size):=by rw[ByteArray.size_append,ByteArray.size_append,z1,z2,z3];decide
   refine T 12 hS3 ?_;have HBe:=Lh HBv3.out;have hSe:=HS.out _ HBe.out;have hwe:∃we,we=v3:=⟨_,rfl⟩;obtain⟨we,hwe⟩:=hwe;rw[←hwe] at HBe HX7 hSe⊢;clear hwe
  case' g4=>
   go_simp;have hb7:=bQ HBa.out (Br.alloc (Nat.le_refl _) (.cells #[.int .u32 (x.sp.length:Int)] 41));have hx7:=heap_alloc_new wa (.cells #[.int .u32 (x.sp.length:Int)] 41);have hr7:=(Below.refl wa.heap.size wa).alloc (Nat.le_refl _) (.cells #[.int .u32 (x.sp.length:Int)] 41);obtain⟨q7,hq7⟩:∃q,wa.heap.size=q:=⟨_,rfl⟩;obtain⟨wx,hwx⟩:∃y,wa.alloc (.cells #[.int .u32 (x.sp.length:Int)] 41)=y:=⟨_,rfl⟩;rw[hwx] at hb7 hx7 hr7⊢;rw[hq7] at hx7⊢;have HBx:=Lh hb7;have HX7:=Lh hx7;have hSx:=HS.out _ hb7;have HX2:=Lh ((hr7.block _ (lQ HX2.out)).trans HX2.out);clear hb7 hx7 hwx hq7 hr7;refine V hK hSx ?_;clear hK K';refine U 3 fun K' hK=> ?_
   go_simp;go_at_call 172;refine(bytesAt 4 (.inr (.inr rfl)) HPc.out HX2.out).mono ?_;rintro e v1 ⟨s1,rfl,hs1,hb1⟩;have HS1:=Lh hs1;have HBv1:=Lh (bQ HBx.out hb1);have hS1:=HS.out _ HBv1.out;have HX7:=Lh ((hb1.block _ (lQ HX7.out)).trans HX7.out);clear hs1 hb1;refine V hK hS1 ?_;clear hK K';have z1:s1.size=4:=by rw[←tl_len,HS1.out];exact pL_len _ _ (by decide)
   have ov1:¬(9223372036854775807<({data:= #[65,70,90,49]}:ByteArray).size+s1.size):=by rw[z1];decide
   refine T 4 hS1 ?_;refine U 7 fun K' hK=> ?_
   go_simp;go_at_call 172;refine(HRg.out v1 HBv1.out).mono ?_;rintro e v2 ⟨s2,rfl,hs2,hb2⟩;have HS2:=Lh hs2;have HBv2:=Lh (bQ HBv1.out hb2);have hS2:=HS.out _ HBv2.out;have HX7:=Lh ((hb2.block _ (lQ HX7.out)).trans HX7.out);clear hs2 hb2;refine V hK hS2 ?_;clear hK K';have z2:s2.size=60:=by rw[←tl_len,HS2.out,bytesL_len 4 (by decide)];rfl
   have ov2:¬(9223372036854775807<({data:= #[65,70,90,49]}++s1:ByteArray).size+s2.size):=by rw[ByteArray.size_append,z1,z2];decide
   refine T 8 hS2 ?_;refine U 11 fun K' hK=> ?_
   go_simp;go_at_call 173;refine(HMf.out v2 HBv2.out).mono ?_;rintro e v3 ⟨s3,rfl,hs3,hb3⟩;have HS3:=Lh hs3;have HBv3:=Lh (bQ HBv2.out hb3);have hS3:=HS.out _ HBv3.out;have HX7:=Lh ((hb3.block _ (lQ HX7.out)).trans HX7.out);clear hs3 hb3;refine V hK hS3 ?_;clear hK K';have z3:s3.size=7:=by rw[←tl_len,HS3.out];simp[pL_len]
   have ov3:¬(9223372036854775807<({data:= #[65,70,90,49]}++s1++s2:ByteArray).size+s3.size):=by rw[ByteArray.size_append,ByteArray.size_append,z1,z2,z3];decide
   refine T 12 hS3 ?_;have HBe:=Lh HBv3.out;have hSe:=HS.out _ HBe.out;have hwe:∃we,we=v3:=⟨_,rfl⟩;obtain⟨we,hwe⟩:=hwe;rw[←hwe] at HBe HX7 hSe⊢;clear hwe
  case' g2=>
   go_simp;have hb7:=bQ HBd.out (Br.alloc (Nat.le_refl _) (.cells #[.int .u32 (x.sp.length:Int)] 41));have hx7:=heap_alloc_new wd (.cells #[.int .u32 (x.sp.length:Int)] 41);have hr7:=(Below.refl wd.heap.size wd).alloc (Nat.le_refl _) (.cells #[.int .u32 (x.sp.length:Int)] 41);obtain⟨q7,hq7⟩:∃q,wd.heap.size=q:=⟨_,rfl⟩;obtain⟨wx,hwx⟩:∃y,wd.alloc (.cells #[.int .u32 (x.sp.length:Int)] 41)=y:=⟨_,rfl⟩;rw[hwx] at hb7 hx7 hr7⊢;rw[hq7] at hx7⊢;have HBx:=Lh hb7;have HX7:=Lh hx7;have hSx:=HS.out _ hb7;clear hb7 hx7 hwx hq7 hr7;refine V hK hSx ?_;clear hK K';refine U 2 fun K' hK=> ?_
   go_simp;have hb2:=bQ HBx.out (Br.alloc (Nat.le_refl _) (.cells #[.int .u32 x.pc] 41));have hx2:=heap_alloc_new wx (.cells #[.int .u32 x.pc] 41);have hr2:=(Below.refl wx.heap.size wx).alloc (Nat.le_refl _) (.cells #[.int .u32 x.pc] 41);obtain⟨q2,hq2⟩:∃q,wx.heap.size=q:=⟨_,rfl⟩;obtain⟨wa,hwa⟩:∃y,wx.alloc (.cells #[.int .u32 x.pc] 41)=y:=⟨_,rfl⟩;rw[hwa] at hb2 hx2 hr2⊢;rw[hq2] at hx2⊢;have HBa:=Lh hb2;have HX2:=Lh hx2;have hSa:=HS.out _ hb2;have HX7:=Lh ((hr2.block _ (lQ HX7.out)).trans HX7.out);clear hb2 hx2 hwa hq2 hr2;refine V hK hSa ?_;clear hK K';refine U 3 fun K' hK=> ?_
   go_simp;go_at_call 172;refine(bytesAt 4 (.inr (.inr rfl)) HPc.out HX2.out).mono ?_;rintro e v1 ⟨s1,rfl,hs1,hb1⟩;have HS1:=Lh hs1;have HBv1:=Lh (bQ HBa.out hb1);have hS1:=HS.out _ HBv1.out;have HX7:=Lh ((hb1.block _ (lQ HX7.out)).trans HX7.out);clear hs1 hb1;refine V hK hS1 ?_;clear hK K';have z1:s1.size=4:=by rw[←tl_len,HS1.out];exact pL_len _ _ (by decide)
   have ov1:¬(9223372036854775807<({data:= #[65,70,90,49]}:ByteArray).size+s1.size):=by rw[z1];decide
   refine T 4 hS1 ?_;refine U 7 fun K' hK=> ?_
   go_simp;go_at_call 172;refine(HRg.out v1 HBv1.out).mono ?_;rintro e v2 ⟨s2,rfl,hs2,hb2⟩;have HS2:=Lh hs2;have HBv2:=Lh (bQ HBv1.out hb2);have hS2:=HS.out _ HBv2.out;have HX7:=Lh ((hb2.block _ (lQ HX7.out)).trans HX7.out);clear hs2 hb2;refine V hK hS2 ?_;clear hK K';have z2:s2.size=60:=by rw[←tl_len,HS2.out,bytesL_len 4 (by decide)];rfl
   have ov2:¬(9223372036854775807<({data:= #[65,70,90,49]}++s1:ByteArray).size+s2.size):=by rw[ByteArray.size_append,z1,z2];decide
   refine T 8 hS2 ?_;refine U 11 fun K' hK=> ?_
   go_simp;go_at_call 173;refine(HMf.out v2 HBv2.out).mono ?_;rintro e v3 ⟨s3,rfl,hs3,hb3⟩;have HS3:=Lh hs3;have HBv3:=Lh (bQ HBv2.out hb3);have hS3:=HS.out _ HBv3.out;have HX7:=Lh ((hb3.block _ (lQ HX7.out)).trans HX7.out);clear hs3 hb3;refine V hK hS3 ?_;clear hK K';have z3:s3.size=7:=by rw[←tl_len,HS3.out];simp[pL_len]
   have ov3:¬(9223372036854775807<({data:= #[65,70,90,49]}++s1++s2:ByteArray).size+s3.size):=by rw[ByteArray.size_append,ByteArray.size_append,z1,z2,z3];decide
   refine T 12 hS3 ?_;have HBe:=Lh HBv3.out;have hSe:=HS.out _ HBe.out;have hwe:∃we,we=v3:=⟨_,rfl⟩;obtain⟨we,hwe⟩:=hwe;rw[←hwe] at HBe HX7 hSe⊢;clear hwe
  all_goals
   refine U 18 fun K' hK=> ?_
   go_simp;go_at_call 172;refine(bytesAt 2 (.inr (.inl rfl)) HLn.out HX7.out).mono ?_;rintro e w5 ⟨s4,rfl,hs4,hb5⟩;have HS4:=Lh hs4;have HB5:=Lh (bQ HBe.out hb5);have hS5:=HS.out _ HB5.out;clear hs4 hb5;refine V hK hS5 ?_;clear hK K';have z4:s4.size=2:=by rw[←tl_len,HS4.out];exact pL_len _ _ (by decide)
   have ov4:¬(9223372036854775807<({data:= #[65,70,90,49]}++s1++s2++s3:ByteArray).size+s4.size):=by rw[ByteArray.size_append,ByteArray.size_append,ByteArray.size_append,z1,z2,z3,z4];decide
   refine T 19 hS5 ?_;have Z5:Hid (tl ({data:= #[65,70,90,49]}++s1++s2++s3++s4)=[65,70,90,49]++(pL x.pc 4++(bytesL 4 (regL x.r)++(manL x.m++pL x.sp.length 2)))∧({data:= #[65,70,90,49]}++s1++s2++s3++s4:ByteArray).size=77):=Lh ⟨by
    rw[tl_app,tl_app,tl_app,tl_app,HS1.out,HS2.out,HS3.out,HS4.out];unfold manL;rw[HE.out.1,HE.out.2];simp[tl],by rw[ByteArray.size_append,ByteArray.size_append,ByteArray.size_append,ByteArray.size_append,z1,z2,z3,z4];rfl⟩
   clear ov1 ov2 ov3 ov4 HS1 HS2 HS3 HS4 z1 z2 z3 z4;generalize ({data:= #[65,70,90,49]}++s1++s2++s3++s4:ByteArray)=hd at*;have hwr:=writeB (HBl.out.keep HB5.out) hd (by rw[Z5.out.2];decide) (Nat.le_trans HLb.out HB5.out.size);have HWr:=Lh hwr;clear hwr;refine U 20 fun K' hK=> ?_
   go_simp;go_at_call 171;refine HWr.out.mono ?_;rintro e w6 ⟨rfl,hbl6,hb6,_⟩;have HB6:=Lh ((bQ HB1.out HB5.out).trans (hb6.mono HSz.out));have hS6:=HS0.out w6 HB6.out;have HBl6:=Lh hbl6;have Hb6:=Lh hb6.size;clear hbl6 hb6;refine V hK hS6 ?_;clear hK K';refine wpAnyH_done (by kernel_rfl) ?_ _;have HR0:Hid (ptRel w0 b x (.int .i64 0) w6):=Lh ⟨0,_,Nat.zero_le _,rfl,HBl6.out,by rw[tl_app,Z5.out.1,List.take_zero,List.flatMap_nil,List.append_nil];rfl,by rw[ByteArray.size_append,Z5.out.2];rfl,HB6.out,Nat.le_trans HLb.out (Nat.le_trans HB5.out.size Hb6.out)⟩;clear HB5 HWr HBl6 Z5 hS5 HBe HX7 hSe HB6 Hb6 hS6;go_wp2_with fail;go_meet;exact HR0.out
 case rest=>
  have HR0:=Lh hcut;obtain⟨i0,s0,_,_,_,_,_,hbw0,_⟩:=hcut;obtain⟨_,_,_,_,_,d21,d22,_⟩:=HS0.out _ hbw0;clear hbw0;go_wp2;go_loopw [39] (fun vi wr=>ptRel w0 b x vi wr) (fun vi _=>x.sp.length - (intOf vi).toNat)
  case atStart=>exact HR0.out
  case round=>
   clear HR0 d21 d22;obtain⟨i,s,hi,rfl,hbl,htl,hsz,hbw,hbs⟩:=hrel;obtain⟨_,_,_,_,_,d21,d22,_⟩:=HS0.out wr hbw
   by_cases hin:i<x.sp.length
   ·have ii:(i:Int)<x.sp.length:=by omega
    obtain⟨g,off,rfl,hgl,p0,p1,p2,p3⟩:=pg_cells (HI.out wr hbw).s hin;obtain⟨ha,hpp0,hpp1⟩:=HO.out.s _ (List.getElem_mem hin);have hmy:=HM.out.pg _ (List.getElem_mem hin);have htk:(x.sp.take (i+1)).flatMap pageL=(x.sp.take i).flatMap pageL++pageL x.sp[i]:=by rw[List.take_succ_eq_append_getElem hin,List.flatMap_append,List.flatMap_singleton]
    generalize x.sp[i]=p at*;obtain⟨pa,pp,po',pt⟩:=p;simp only at p0 p1 p2 p3 ha hpp0 hpp1;obtain⟨_,_,m3,m4,_⟩:=hmy;simp only at m3 m4;have hb2:Below wr.heap.size wr (wr.alloc (.cells #[.int .u32 pa,.int .u8 pp,.bool po',.string pt] 151)):=Ba _;have hx2:=heap_alloc_new wr (.cells #[.int .u32 pa,.int .u8 pp,.bool po',.string pt] 151);obtain⟨w2,hw2⟩:∃y,wr.alloc (.cells #[.int .u32 pa,.int .u8 pp,.bool po',.string pt] 151)=y:=⟨_,rfl⟩;obtain⟨qb,hqb⟩:∃y,wr.heap.size=y:=⟨_,rfl⟩;have hbr:=hbw;rw[hw2] at hb2 hx2;rw[hqb] at hx2;have HBw:=Lh hbw;have HB2:=Lh hb2;have HBl2:=Lh (hbl.keep hb2);have HX2:=Lh hx2;have HNe:=Lh (show b≠qb by have:=hbl.lt;omega);have HBs:=Lh (Nat.le_trans hbs hb2.size);have HT:=Lh htl;have HZ:=Lh hsz;have HTk:=Lh htk;have HM4:=Lh m4;have HS9:Hid (∀V,Below w2.heap.size w2 V→V.cell? ⟨qb,0,none⟩=some (.int .u32 pa)∧V.cell? ⟨qb,1,none⟩=some (.int .u8 pp)∧V.cell? ⟨qb,2,none⟩=some (.bool po')∧V.cell? ⟨qb,3,none⟩=some (.string pt)∧True):=Lh fun V hV=>by
     have q:=(hV.block _ (lQ hx2)).trans hx2;refine⟨?_, ?_, ?_, ?_,trivial⟩<;>(unfold World.cell?;rw[q];rfl)
    have HFa:Hid (fitN pa 4):=Lh ⟨ha.1,by show pa<256 ^ 4;omega⟩;have HFp:Hid (∀z,z∈[pp,bit01 po']→fitN z 1):=Lh fun z hz=>by
     simp at hz;rcases hz with rfl|rfl
     ·exact⟨hpp0,by show z<256 ^ 1;omega⟩
     ·cases po'<;>exact⟨by decide,by decide⟩
    have hbt:∀W,Calls Tryz.prog 174 #[.bool po'] W fun e w'=>e=.returned (.int .u32 (bit01 po'))∧W=w':=fun W=>bit po' W
    have HBt:=Lh hbt;have iwp:IntKind.u32.wrap pp=pp:=by rw[IntKind.wrap_u32];omega
    have iw:IntKind.i64.wrap ((i:Int)+1)=(i:Int)+1:=by have:=HL.out;rw[IntKind.wrap_i64];omega
    have HI65:=Lh (show i<65536 by have:=HL.out;omega);clear hb2 hx2 hbl htl hsz hbs htk m3 m4 ha hpp0 hpp1 hbr hbw hbt hgl;go_wp2_with fail;try rw[hw2]
    try rw[hqb]
    clear hw2 hqb p0 p1 p2 p3 d21 d22;refine B (fun V=>V.cell? ⟨qb,0,none⟩=some (.int .u32 pa)∧V.cell? ⟨qb,1,none⟩=some (.int .u8 pp)∧V.cell? ⟨qb,2,none⟩=some (.bool po')∧V.cell? ⟨qb,3,none⟩=some (.string pt)∧True) (HS9.out _ Br.drew) ?_;intro wd hwd hS;have HBd:Hid (Below w2.heap.size w2 wd):=Lh (by subst hwd;exact Br.drew);clear hwd;refine T 0 hS ?_;refine T 1 hS ?_;refine T 4 hS ?_;refine T 5 hS ?_;refine T 6 hS ?_;refine T 7 hS ?_;refine T 8 hS ?_;refine T 13 hS ?_;refine T 14 hS ?_;refine U 2 fun K' hK=> ?_
    go_simp;have hba:=bQ HBd.out (Br.alloc (Nat.le_refl _) (.cells #[.int .u32 pa] 41));have hxa:=heap_alloc_new wd (.cells #[.int .u32 pa] 41);refine V hK (HS9.out _ hba) ?_;clear hK K';refine U 3 fun K' hK=> ?_
    go_simp;go_at_call 172;refine(bytesAt 4 (.inr (.inr rfl)) HFa.out hxa).mono ?_;rintro e v1 ⟨s1,rfl,hs1,hb1⟩;have HS1:=Lh hs1;have HV1:=Lh (bQ hba hb1);clear hs1 hb1 hba hxa hS;have hS:=HS9.out _ HV1.out;refine V hK hS ?_;clear hK K';refine U 9 fun K' hK=> ?_
    go_simp;go_at_call 174;refine(HBt.out _).mono ?_;rintro e v2 ⟨rfl,rfl⟩;refine V hK hS ?_;clear hK K';refine U 10 fun K' hK=> ?_
    go_simp;have hbc:=bQ HV1.out (Br.alloc (Nat.le_refl _) (.cells #[.int .u32 pp,.int .u32 (bit01 po')] 41));have hxc:=heap_alloc_new v1 (.cells #[.int .u32 pp,.int .u32 (bit01 po')] 41);have hby:=bytes (w:=v1.alloc (.cells #[.int .u32 pp,.int .u32 (bit01 po')] 41)) 1 (.inl rfl) [pp,bit01 po'] (by simp) HFp.out (a:=some ⟨v1.heap.size,0,none⟩) (c:=2) fun j hj=>⟨v1.heap.size,0,rfl,by
     have:j=0∨j=1:=by simp at hj;omega
     unfold World.cell?;rcases this with rfl|rfl<;>(simp only[Nat.zero_add];rw[hxc];rfl)⟩
    have HBy:=Lh hby;have HBc:=Lh hbc;refine V hK (HS9.out _ hbc) ?_;clear hK K' hbc hxc hby;refine U 11 fun K' hK=> ?_
    go_simp;go_at_call 172;refine HBy.out.mono ?_;rintro e v3 ⟨s2,rfl,hs2,hb3⟩;have HS2:=Lh hs2;have HV3:=Lh (bQ HBc.out hb3);clear hs2 hb3 HBy HBc hS;have hS:=HS9.out _ HV3.out;refine V hK hS ?_;clear hK K';have z1:s1.size=4:=by rw[←tl_len,HS1.out];exact pL_len _ _ (by decide)
    have z2:s2.size=2:=by rw[←tl_len,HS2.out,bytesL_len 1 (by decide)];rfl
    have z3:=HM4.out;have ov1:¬(9223372036854775807<s1.size+s2.size):=by omega
    have ov2:¬(9223372036854775807<(s1++s2).size+pt.size):=by rw[ByteArray.size_append];omega
    refine T 12 hS ?_;refine T 15 hS ?_;have Z5:Hid (tl (s1++s2++pt)=pageL ⟨pa,pp,po',pt⟩∧(s1++s2++pt).size=262):=Lh ⟨by
     rw[tl_app,tl_app,HS1.out,HS2.out];simp[pageL,bytesL],by rw[ByteArray.size_append,ByteArray.size_append];omega⟩
    clear ov1 ov2 z1 z2 z3 HS1 HS2;generalize s1++s2++pt=sp at*;have hwr:=writeB (HBl2.out.keep HV3.out) sp (by rw[HZ.out,Z5.out.2];have:=HI65.out;omega) (Nat.le_trans HBs.out HV3.out.size);have HWr:=Lh hwr;clear hwr;refine U 16 fun K' hK=> ?_
    go_simp;go_at_call 171;refine HWr.out.mono ?_;rintro e w6 ⟨rfl,hbl6,hb6,ho6⟩;have hx6:=ho6 qb _ ((HV3.out.block _ (lQ HX2.out)).trans HX2.out) (fun e=>HNe.out (Option.some.inj e).symm) (fun c fz e=>by
     injection e with _ e2
     exact absurd e2 (by decide))
    have hS6:w6.cell? ⟨qb,0,none⟩=some (.int .u32 pa)∧w6.cell? ⟨qb,1,none⟩=some (.int .u8 pp)∧w6.cell? ⟨qb,2,none⟩=some (.bool po')∧w6.cell? ⟨qb,3,none⟩=some (.string pt)∧True:=by
     refine⟨?_, ?_, ?_, ?_,trivial⟩<;>(unfold World.cell?;rw[hx6];rfl)
    have fin:ptRel w0 b x (.int .i64 ((i:Int)+1)) w6:=⟨i+1,_,hin,by simp,hbl6,by rw[tl_app,HT.out,Z5.out.1,HTk.out,List.append_assoc],by rw[ByteArray.size_append,HZ.out,Z5.out.2];omega,(HBw.out.trans ((HB2.out.trans (HV3.out.mono HB2.out.size)).mono HBw.out.size)).trans (hb6.mono HSz.out),Nat.le_trans (Nat.le_trans HBs.out HV3.out.size) hb6.size⟩;have Fin:=Lh fin;clear fin hbl6 hb6 ho6 hx6 HWr Z5 hS;refine V hK hS6 ?_;clear hK K';refine wpAnyH_done (by kernel_rfl) ?_ _;clear hS6;go_wp2;exact⟨Fin.out,by simp[intOf];omega⟩
   ·obtain rfl:i=x.sp.length:=by omega
    have ii:¬(x.sp.length:Int)<x.sp.length:=by omega
    rw[List.take_length] at htl;have HTx:=Lh (ptext x.text (by have:=HM.out.tx;omega) wr);have HBw:=Lh hbw;have HBl2:=Lh hbl;have HBs:=Lh hbs;have HT:=Lh htl;have HZ:=Lh hsz;clear hbl htl hsz hbs hbw;go_wp2_with fail;refine HTx.out.mono ?_;rintro e w3 ⟨t,rfl,ht,hb3⟩;have zt:t.size≤4098:=by
     have:=congrArg List.length ht;rw[tl_len,List.length_append,pL_len _ _ (by decide),tl_len] at this;have:=HM.out.tx;omega
    have HTt:=Lh ht;have HB3:=Lh (HBw.out.trans (hb3.mono HBw.out.size));have HBs3:=Lh (Nat.le_trans HBs.out hb3.size);have hwr:=writeB (HBl2.out.keep hb3) t (by rw[HZ.out];have:=HL.out;omega) HBs3.out;have HWr:=Lh hwr;clear hb3 ht zt hwr HTx;go_wp2_with fail;refine HWr.out.mono ?_;rintro e w4 ⟨rfl,hbl4,hb4,_⟩;have HSt:=Lh (stringB hbl4 (Nat.le_trans HBs3.out hb4.size));have HB4:=Lh (HB3.out.trans (hb4.mono HSz.out));clear hbl4 hb4 HWr;go_wp2_with fail;refine HSt.out.mono ?_;rintro e w5 ⟨rfl,hb5⟩;have HE5:=Lh (HPQ.out (s++t) w5 (by
     rw[tl_app,HT.out,HTt.out];unfold putL' hdL;simp only[List.append_assoc]) (HB4.out.trans (hb5.mono HSz.out)))
    clear hb5 HSt;go_wp2
    first|exact HE5.out|(go_ret2;exact HE5.out)
end Go.Proofs.YtehihecknhcggaaGreat.Fz
namespace Go.Proofs.YtehihecknhcggaaGreat.Fz
open Go.RowKit Word
theorem pnew(s:ByteArray)(w:World):Calls Tryz.prog 177 #[.string s] w fun e w'=>e=.returned (.pointer (some ⟨w.heap.size,0,none⟩))∧w'=w.alloc (.cells #[.string s,.int .i64 0,.int .i64 0] 402):=by
 go_enter func177,ntmps177;go_wp2;go_ret;exact⟨rfl,rfl⟩
def zeroFr:Fr:=⟨⟨0,[],[],false⟩,fun _=>0,0,[],ByteArray.empty⟩
def nl:Value:=.slice none 0 0
def setsIn:Array Value→Nat→List Value→Array Value
 |c,_,[]=>c
 |c,o,v::l=>setsIn (c.setIfInBounds o v) (o+1) l
theorem setCells_block{b:Nat}{t:TypeId}:∀(l:List Value) (o:Nat) (w:World) (c:Array Value),w.heap[b]? =some (.cells c t (0,0))→(w.setCells b o l).heap[b]? =some (.cells (setsIn c o l) t (0,0))∧Mod (fun k=>k=b) w (w.setCells b o l)
 | [],o,w,c,h=>⟨h,Mod.refl _ _⟩
 |v::l,o,w,c,h=>by
  have h1:=heap_setCell_same w b o _ _ v h;have hm:Mod (fun k=>k=b) w (w.setCell ⟨b,o,none⟩ v):=Mod.setCell (F:=fun k=>k=b) (Mod.refl _ _) ⟨b,o,none⟩ (.inl rfl) _;obtain⟨h2,h3⟩:=setCells_block l (o+1) _ _ h1;exact⟨h2,hm.same h3⟩
theorem arr_sets(x y:Fr)(ev pv sv ev' pv' sv':Value):setsIn (x.arr ev pv sv) 0 (y.arr ev' pv' sv').toList=y.arr ev' pv' sv':=by kernel_rfl
theorem FBox.sets{w:World}{b:Nat}{x:Fr}{ev pv sv:Value}(h:FBox w b x ev pv sv)(y:Fr)(ev' pv' sv':Value):FBox (w.setCells b 0 (y.arr ev' pv' sv').toList) b y ev' pv' sv'∧Mod (fun k=>k=b) w (w.setCells b 0 (y.arr ev' pv' sv').toList):=by
 have h1:=setCells_block (y.arr ev' pv' sv').toList 0 w _ h;rw[arr_sets] at h1;exact h1
theorem FBox.range{w:World}{b:Nat}{x:Fr}{ev pv sv:Value}(h:FBox w b x ev pv sv):w.rangeAt b 0 (x.arr ev pv sv).toList:=fun j v hv=>by
 rw[Nat.zero_add];exact h.cell j v (by rw[←Array.getElem?_toList];exact hv)
theorem arr_size(x:Fr)(ev pv sv:Value):(x.arr ev pv sv).size=23:=rfl
theorem FBox.there{w:World}{b:Nat}{x:Fr}{ev pv sv:Value}(h:FBox w b x ev pv sv):w.there b 0 23:=fun j hj=>by
 rw[Nat.zero_add];exact⟨by rw[h.cell j _ (Array.getElem?_eq_getElem (by rw[arr_size];exact hj))];rfl,h.thaw j⟩
theorem fz_size(x:Fr)(ev pv sv:Value):(Tryz.prog.info? 52).map (·.size)=some (x.arr ev pv sv).size:=by rw[arr_size];kernel_rfl
theorem fz_sizeL(x:Fr)(ev pv sv:Value):(Tryz.prog.info? 52).map (·.size)=some (x.arr ev pv sv).toList.length:=by rw[Array.length_toList];exact fz_size ..
theorem arr_cong{x y:Fr}(h1:x.m.pages=y.m.pages)(h2:x.m.con=y.m.con)(h3:∀j,j<16→x.r j=y.r j)(h4:x.pc=y.pc)(h5:x.text=y.text)(ev pv sv:Value):x.arr ev pv sv=y.arr ev pv sv:=by
 unfold Fr.arr;rw[h1,h2,h4,h5,h3 0 (by omega),h3 1 (by omega),h3 2 (by omega),h3 3 (by omega),h3 4 (by omega),h3 5 (by omega),h3 6 (by omega),h3 7 (by omega),h3 8 (by omega),h3 9 (by omega),h3 10 (by omega),h3 11 (by omega),h3 12 (by omega),h3 13 (by omega),h3 14 (by omega),h3 15 (by omega)]
theorem wpList_load_g{P:Program}{ops:Array Oper}{rest:List Oper}{op:Oper}{a:Act}{w:World}{Q:Exit→Act→World→Prop}(hw:Region.wanted op (yielded ops a.tmps)=true)(ty:TypeId)(x:Operand)(ho:op.op=.load ty x)
  (b o:Nat) (hx:a.eval x=.pointer (some ⟨b,o,none⟩)) (cs:List Value) (d:TypeDesc) (hc:w.rangeAt b o cs)
  (hu:P.underlying ty=some d) (hd:d.isRow=true) (hi:(P.info? ty).map (·.size)=some cs.length)
  (h:wpList P ops Q rest (a.put op.dst (.agg cs.toArray)) w):wpList P ops Q (op::rest) a w:=
 wpList_step fun K hK=>by
  rw[if_pos hw];exact wp_load_mid ty x ho b o hx cs d hc hu hd hi (hK _ _ h)
theorem FBox.result{w:World}{b:Nat}{x:Fr}{ev pv sv:Value}(h:FBox w b x ev pv sv):(loadVar 52 ⟨b,0,none⟩).run Tryz.prog w=.ok (.agg (x.arr ev pv sv)) w:=by
 have:=run_loadVar_mid (P:=Tryz.prog) w b 0 52 _ _ h.range Tryz.underlying52 rfl (fz_sizeL x ev pv sv);rw[Array.toArray_toList] at this;exact this
theorem results_box{P:Program}{fn:Func}{c r:Nat}{t:TypeId}{p:Addr}{tmps:Array Value}{v u:Value}{w:World}(hr:fn.results= #[.cell c t,.tmp r])(ha:tmps.getD c undef=.pointer (some p))(hu:tmps.getD r undef=u)(hv:(loadVar t p).run P w=.ok v w):
  (results fn tmps).run P w=.ok (.tuple #[v,u]) w:=by
 rw[Array.getD_eq_getD_getElem?] at ha hu;have h:(results fn tmps).run P w=((loadVar t p).run P w).andThen fun a w'=>.ok (.tuple #[a,u]) w':=by
  unfold results;rw[hr];simp[go_sem,ha,hu];cases Sem.run P (isAgg t) w with
  |ok a w'=>cases a<;>rfl
  |halt _ _=>rfl
 rw[h,hv];rfl
structure GG(w0:World)(n:Nat)(s:ByteArray)(x:Fr)(w:World)(k:Nat)(sv:Value)(r:List UInt8):Prop where
 g:GS (n+5) (n+3) (n+2) (n+1) (n+4) s x nl nl w k sv r
 res:FBox w n zeroFr nl nl nl
 bel:Below n w0 w
section
variable {w0:World} {n:Nat} {s:ByteArray} {x y:Fr} {w w':World} {k k':Nat} {sv:Value} {r r':List UInt8}
theorem GG.read(h:GG w0 n s x w k sv r)(hf:FrR w' (n+2) (n+1) s k')(hk:k'≤s.size)(hd:(tl s).drop k'=r')(hm:Mod (fun i=>i=n+1) w w'):GG w0 n s x w' k' sv r':=
 ⟨h.g.read hf hk hd hm,h.res.keep hm (by omega),Mod.below h.bel hm (by have:=h.g.bb;omega) fun i _ e=>by omega⟩
theorem GG.num(h:GG w0 n s x w k sv r){m:Nat}(hn:m=1∨m=2∨m=4)(hs:s.size≤maxLen){v:Int}(hf:fitN v m)(hr:r=pL v m++r'):
  Calls Tryz.prog 179 #[.pointer (some ⟨n+2,0,none⟩),.int .i64 m] w fun e w'=>e=.returned (.int .u32 v)∧GG w0 n s x w' (k+m) sv r':=
 (h.g.pages hn hs hf hr).mono fun e w' ⟨he,h1,h2⟩=>⟨he,h1,h.res.keep h2 (by omega),Mod.below h.bel h2 (by have:=h.g.bb;omega) fun i _ e=>by omega⟩
theorem GG.set(h:GG w0 n s x w k sv r)(j:Nat)(v:Value)(he:(x.arr nl nl sv).setIfInBounds j v=y.arr nl nl sv)(hsp:y.sp=x.sp):GG w0 n s y (w.setCell ⟨n+4,j,none⟩ v) k sv r:=by
 have hm:Mod (fun i=>i=n+4) w (w.setCell ⟨n+4,j,none⟩ v):=Mod.setCell (F:=fun i=>i=n+4) (Mod.refl _ _) ⟨n+4,j,none⟩ (.inl rfl) _;have ho:=h.g.own;have hb:=h.g.bb;refine⟨⟨h.g.fr.keep hm (by omega) (by omega),h.g.kle,h.g.drp,(hm.block _ (lQ h.g.cel) (by omega)).trans h.g.cel,h.g.box.set j v he, ?_,fun g hg=>⟨(ho g hg).1,Nat.lt_of_lt_of_le (ho g hg).2 hm.size⟩,h.g.lt,h.g.ne,Nat.le_trans h.g.bb hm.size⟩,h.res.keep hm (by omega),Mod.below h.bel hm (by omega) fun i _ e=>by omega⟩;rw[hsp];exact h.g.row.keep fun g hg=>hm.block g (ho g hg).2 (by have:=(ho g hg).1;omega)
theorem GG.get3(h:GG w0 n s x w k sv r)(hs:s.size≤maxLen){p:Fp}(ha:0≤p.addr∧p.addr≤4294967295)(hp:0≤p.perm∧p.perm<256)(ht:p.text.size=256)(hr:r=pageL p++r')(hl:x.sp.length≤70000):
  Calls Tryz.prog 183 #[.pointer (some ⟨n+3,0,none⟩),.pointer (some ⟨n+4,0,none⟩)] w fun e w'=>e=.returned (.tuple #[])∧∃k' sv',GG w0 n s {x with sp:=x.sp++[p]} w' k' sv' r':=by
 refine(Fz.get3 h.g hs ha hp ht hr hl).mono ?_;rintro e w' ⟨he,k',sv',h1,h2⟩;have hb:=h.g.bb;exact⟨he,k',sv',h1,h.res.keep h2 (by rintro(q|q|q);omega;omega;exact absurd (h.g.own _ q).1 (by omega)),Mod.below h.bel h2 (by omega) fun i _ e=>by
  rcases e with q|q|q
  ·omega
  ·omega
  ·have:=(h.g.own _ q).1;omega⟩
theorem GG.c0(h:GG w0 n s x w k sv r):w.cell? ⟨n+3,0,none⟩=some (.pointer (some ⟨n+2,0,none⟩)):=h.g.c0
theorem GG.c1(h:GG w0 n s x w k sv r):w.cell? ⟨n+2,0,none⟩=some (.pointer (some ⟨n+1,0,none⟩)):=by unfold World.cell?;rw[h.g.fr.h];rfl
theorem GG.c2(h:GG w0 n s x w k sv r):w.cell? ⟨n+2,1,none⟩=some (.bool false):=by unfold World.cell?;rw[h.g.fr.h];rfl
theorem GG.init{w:World}{n:Nat}(hn:w.heap.size=n)(s:ByteArray){W:World}(hW:((((w.alloc (.cells (zeroFr.arr nl nl nl) 52)).alloc (.cells #[.string s,.int .i64 0,.int .i64 0] 402)).alloc (.cells #[.pointer (some ⟨n+1,0,none⟩),.bool false] 313)).alloc (.cells #[.pointer (some ⟨n+2,0,none⟩)] 309)).alloc (.cells (zeroFr.arr nl nl nl) 52)=W):
  FBox W (n+4) zeroFr nl nl nl∧GG w n s zeroFr (W.setCells (n+4) 0 (zeroFr.arr nl nl nl).toList) 0 nl (tl s):=by
 have a1:=heap_alloc_new w (.cells (zeroFr.arr nl nl nl) 52);have b1:=(Below.refl w.heap.size w).alloc (Nat.le_refl _) (.cells (zeroFr.arr nl nl nl) 52);have s1:(w.alloc (.cells (zeroFr.arr nl nl nl) 52)).heap.size=n+1:=by simp[hn]
 rw[hn] at a1 b1;generalize w.alloc (.cells (zeroFr.arr nl nl nl) 52)=w1 at*;have a2:=heap_alloc_new w1 (.cells #[.string s,.int .i64 0,.int .i64 0] 402);have b2:=(Below.refl w1.heap.size w1).alloc (Nat.le_refl _) (.cells #[.string s,.int .i64 0,.int .i64 0] 402);have s2:(w1.alloc (.cells #[.string s,.int .i64 0,.int .i64 0] 402)).heap.size=n+2:=by simp[s1]
 rw[s1] at a2 b2;generalize w1.alloc (.cells #[.string s,.int .i64 0,.int .i64 0] 402)=w2 at*;have a3:=heap_alloc_new w2 (.cells #[.pointer (some ⟨n+1,0,none⟩),.bool false] 313);have b3:=(Below.refl w2.heap.size w2).alloc (Nat.le_refl _) (.cells #[.pointer (some ⟨n+1,0,none⟩),.bool false] 313);have s3:(w2.alloc (.cells #[.pointer (some ⟨n+1,0,none⟩),.bool false] 313)).heap.size=n+3:=by simp[s2]
 rw[s2] at a3 b3;generalize w2.alloc (.cells #[.pointer (some ⟨n+1,0,none⟩),.bool false] 313)=w3 at*;have a4:=heap_alloc_new w3 (.cells #[.pointer (some ⟨n+2,0,none⟩)] 309);have b4:=(Below.refl w3.heap.size w3).alloc (Nat.le_refl _) (.cells #[.pointer (some ⟨n+2,0,none⟩)] 309);have s4:(w3.alloc (.cells #[.pointer (some ⟨n+2,0,none⟩)] 309)).heap.size=n+4:=by simp[s3]
 rw[s3] at a4 b4;generalize w3.alloc (.cells #[.pointer (some ⟨n+2,0,none⟩)] 309)=w4 at*;have a5:=heap_alloc_new w4 (.cells (zeroFr.arr nl nl nl) 52);have b5:=(Below.refl w4.heap.size w4).alloc (Nat.le_refl _) (.cells (zeroFr.arr nl nl nl) 52);have s5:(w4.alloc (.cells (zeroFr.arr nl nl nl) 52)).heap.size=n+5:=by simp[s4]
 rw[s4] at a5 b5;rw[hW] at a5 b5 s5;have hx:FBox W (n+4) zeroFr nl nl nl:=a5;obtain⟨h5,hm⟩:=hx.sets zeroFr nl nl nl;generalize W.setCells (n+4) 0 (zeroFr.arr nl nl nl).toList=V at*;have z:=hm.size;have k4:∀k,k<n+4→V.heap[k]? =w4.heap[k]? :=fun k hk=>(hm.block k (by omega) (by omega)).trans (b5.block k hk)
 have e4:V.heap[n+3]? =_:=(k4 (n+3) (by omega)).trans a4;have e3:V.heap[n+2]? =_:=(k4 (n+2) (by omega)).trans ((b4.block (n+2) (by omega)).trans a3);have e2:V.heap[n+1]? =_:=(k4 (n+1) (by omega)).trans ((b4.block (n+1) (by omega)).trans ((b3.block (n+1) (by omega)).trans a2));have e1:V.heap[n]? =_:=(k4 n (by omega)).trans ((b4.block n (by omega)).trans ((b3.block n (by omega)).trans ((b2.block n (by omega)).trans a1)));have hb:Below n w W:=(((b1.trans (b2.mono (by omega))).trans (b3.mono (by omega))).trans (b4.mono (by omega))).trans (b5.mono (by omega));exact⟨hx,⟨⟨⟨e2,e3⟩,Nat.zero_le _,rfl,e4,h5,SlV.nil _ _ _,fun g hg=>(nomatch hg),by omega,by omega,by omega⟩,e1,Mod.below hb hm (by omega) fun i _ e=>by omega⟩⟩
end
end Go.Proofs.YtehihecknhcggaaGreat.Fz
namespace Go.Proofs.YtehihecknhcggaaGreat.Fz
open Go.RowKit In
structure FrV(w:World)(x:Fr)(ev pv sv:Value):Prop where
 m:MnIn w ev pv x.m
 s:RwV w 4 sv x.sp.length (pgC x.sp)
theorem FrV.below{w w':World}{x:Fr}{ev pv sv:Value}(h:FrV w x ev pv sv)(hb:Below w.heap.size w w'):FrV w' x ev pv sv:=⟨h.m.below hb,h.s.below hb⟩
theorem Pgs.at'{w:World}{a:Option Addr}{l:List Fp}(h:Pgs w a l):Cl.At w a (pgC l):=fun j u hu=>by
 have hj:=(List.getElem?_eq_some_iff.1 hu).1;rw[pgC_len] at hj;have hi:j / 4<l.length:=by omega
 obtain⟨g,o,e,hc⟩:=h.cell (j / 4) hi;refine⟨g,o,e, ?_⟩;have h1:=pgC_at l (j / 4) _ (Zg hi) (j % 4) (by omega);have h2:=hc (j % 4) (by omega);rw[show j / 4*4+j % 4=j by omega] at h1;rw[show o+j / 4*4+j % 4=o+j by omega] at h2;rw[h2,←h1,hu]
theorem Small.v{w:World}{d:FrI}(h:d.pre w)(hs:Small d):FrV w d.x d.mi.ev d.mi.pv d.sv:=
 ⟨h.m.i,⟨pgC_len _,⟨_,_,rfl,h.s.at'⟩,by have:=hs.sp;unfold maxLen;omega⟩⟩
theorem pg_cellsV{w:World}{so:Option Addr}{sc:Nat}{l:List Fp}(h:RwV w 4 (.slice so l.length sc) l.length (pgC l)){i:Nat}(hi:i<l.length):
  ∃g off,so=some ⟨g,off,none⟩∧w.cell? ⟨g,off+i*4,none⟩=some (.int .u32 l[i].addr)∧w.cell? ⟨g,off+i*4+1,none⟩=some (.int .u8 l[i].perm)∧w.cell? ⟨g,off+i*4+2,none⟩=some (.bool l[i].own)∧w.cell? ⟨g,off+i*4+3,none⟩=some (.string l[i].text):=by
 have hx:l[i]? =some l[i]:=Zg hi;have h0:=pgC_at l i _ hx;obtain⟨g,off,rfl,e0⟩:=rw_at h (i*4+0) _ (h0 0 (by omega));obtain⟨g1,o1,q1,e1⟩:=rw_at h (i*4+1) _ (h0 1 (by omega));obtain⟨g2,o2,q2,e2⟩:=rw_at h (i*4+2) _ (h0 2 (by omega));obtain⟨g3,o3,q3,e3⟩:=rw_at h (i*4+3) _ (h0 3 (by omega));cases q1;cases q2;cases q3;exact⟨g,off,rfl,e0,by rw[Nat.add_assoc];exact e1,by rw[Nat.add_assoc];exact e2,by rw[Nat.add_assoc];exact e3⟩
theorem none_pg:Rw.None 50:=fun W o n c a cap hnc=>by
 have hu:=Tryz.underlying50;cases a<;>cases o<;>go_simp
theorem app_pg{W:World}{l:List Fp}{so:Option Addr}{sc:Nat}(h:RwV W 4 (.slice so l.length sc) l.length (pgC l))(hl:l.length≤70000):
  ∃o' c' W',(Builtin.append_ #[50,50] 50 #[.slice none 0 0,.slice so l.length sc]).run Tryz.prog W=.ok (.slice o' l.length c') W'∧SlV W' 151 4 (.slice o' l.length c') l.length (pgC l)∧Below W.heap.size W W'∧∀k,(Value.slice o' l.length c').ownBlock=some k→W.heap.size≤k∧k<W'.heap.size:=by
 obtain⟨i0,hi0,hz0,hz1,hz2⟩:=info_parts info_page;obtain⟨o',c',W',hr,hs,hm,ho⟩:=Rw.app (t:=50) (e:=151) (s:=4) (bytes:=24) none_pg Tryz.underlying50 hi0 hz0 hz1 hz2 rfl (by decide) (by decide) (SlV.nil W _ _) (a:=so) (m:=l.length) (cap:=sc) (pgC_len l) (rw_at h) (by omega) (pgC_one l);rw[Nat.zero_add] at hr hs ho;refine⟨o',c',W',hr,by rw[List.nil_append] at hs;exact hs,Mod.below Br hm (Nat.le_refl _) (fun k _ g=>by simp[Value.ownBlock] at g),fun k hk=> ?_⟩;rcases ho with q|⟨z,q,q1,q2⟩
 ·rw[hk] at q;simp[Value.ownBlock] at q
 ·rw[hk] at q;cases q;exact⟨q1,q2⟩
end Go.Proofs.YtehihecknhcggaaGreat.Fz
namespace Go.Proofs.YtehihecknhcggaaGreat
open Go.RowKit
namespace R11
theorem drewN_below{B:Nat}{a w:World}(h:Below B a w)(n:Nat):Below B a (w.drewN n):=h.trans ⟨rfl,rfl,rfl,Nat.le_refl _,fun _ _=>rfl⟩
def eOk(l:List (Int×Int))(k:Nat):Prop:=∀x,l[k]? =some x→Gp.badX x=false∧∀y,0<k→l[k - 1]? =some y→y.1<x.1
def pOk(l:List Int)(k:Nat):Prop:=∀x,l[k]? =some x→x≠0∧∀y,0<k→l[k - 1]? =some y→y<x
def eRel(w:World)(m:Mn)(vi:Value)(wr:World):Prop:=∃i:Nat,i≤m.ext.length∧vi=.int .i64 i∧(∀k,k<i→eOk m.ext k)∧Below w.heap.size w wr
def pRel(w:World)(m:Mn)(vi:Value)(wr:World):Prop:=∃i:Nat,i≤m.ports.length∧vi=.int .i64 i∧(∀k,k<i→pOk m.ports k)∧Below w.heap.size w wr
theorem may_ext{m:Mn}{k:Nat}(h:¬eOk m.ext k):Gp.mayM m=false:=by
 cases hm:Gp.mayM m with
 |false=>rfl
 |true=>
  exfalso
  unfold Gp.mayM at hm;simp only[Bool.and_eq_true,Bool.not_eq_true'] at hm;refine h fun x hx=>⟨?_,fun y hk hy=> ?_⟩
  ·have:=hm.1.1.1.1.1;rw[List.any_eq_false] at this
   simpa using this x (List.mem_of_getElem? hx)
  ·have:=(Gp.risesB_iff _ m.ext).1 hm.1.1.1.1.2 (k - 1) y x hy (by rw[show k - 1+1=k by omega];exact hx)
   simpa using this
theorem may_port{m:Mn}{k:Nat}(h:¬pOk m.ports k):Gp.mayM m=false:=by
 cases hm:Gp.mayM m with
 |false=>rfl
 |true=>
  exfalso
  unfold Gp.mayM at hm;simp only[Bool.and_eq_true,Bool.not_eq_true'] at hm;refine h fun x hx=>⟨fun e=> ?_,fun y hk hy=> ?_⟩
  ·have:=hm.1.1.2;simp at this;exact this (e▸List.mem_of_getElem? hx)
  ·have:=(Gp.risesB_iff _ m.ports).1 hm.1.1.1.2 (k - 1) y x hy (by rw[show k - 1+1=k by omega];exact hx)
   simpa using this
theorem may_all{m:Mn}(h1:∀k,k<m.ext.length→eOk m.ext k)(h2:∀k,k<m.ports.length→pOk m.ports k):Gp.mayM m=(decide (m.pages≤1024)&&decide (m.ports.length≤16)):=by
 unfold Gp.mayM;have a1:m.ext.any Gp.badX=false:=by
  rw[List.any_eq_false];intro x hx;obtain⟨k,hk⟩:=List.getElem?_of_mem hx;have:=(h1 k (List.getElem?_eq_some_iff.1 hk).1 x hk).1;simp[this]
 have a2:Gp.risesB (fun a b:Int×Int=>decide (a.1<b.1)) m.ext=true:=(Gp.risesB_iff _ _).2 fun k x y hx hy=>by
  have:=(h1 (k+1) (List.getElem?_eq_some_iff.1 hy).1 y hy).2 x (by omega) hx
  simpa using this
 have a3:Gp.risesB (fun a b:Int=>decide (a<b)) m.ports=true:=(Gp.risesB_iff _ _).2 fun k x y hx hy=>by
  have:=(h2 (k+1) (List.getElem?_eq_some_iff.1 hy).1 y hy).2 x (by omega) hx
  simpa using this
 have a4:decide ((0:Int)∈m.ports)=false:=by
  rw[decide_eq_false_iff_not];intro hx;obtain⟨k,hk⟩:=List.getElem?_of_mem hx;exact(h2 k (List.getElem?_eq_some_iff.1 hk).1 0 hk).1 rfl
 rw[a1,a2,a3,a4];simp[Bool.and_comm]
theorem may{w:World}{m:Mn}{ev pv:Value}(hm:MnIn w ev pv m)(hok:m.ok):Calls Tryz.prog 204 #[.agg (m.cells ev pv)] w fun e w'=>e=.returned (.bool (Gp.mayM m))∧Below w.heap.size w w':=by
 obtain⟨eo,ec,rfl⟩:=hm.e.form;obtain⟨po,pc,rfl⟩:=hm.p.form;have hel:=rw_len hm.e;have hpl:=rw_len hm.p;unfold maxLen at hel hpl;have hb:=(Below.refl w.heap.size w).alloc (Nat.le_refl _) (.cells (m.cells (.slice eo m.ext.length ec) (.slice po m.ports.length pc)) 48);have hblk:=heap_alloc_new w (.cells (m.cells (.slice eo m.ext.length ec) (.slice po m.ports.length pc)) 48);have HM:=Lh fun V (hV:Below w.heap.size w V)=>hm.below hV
 have HOk:=Lh hok;unfold Mn.cells at*;have HB:=Lh hb;have HC:=Lh fun V (hV:Below (w.alloc (.cells #[.int .u32 m.pages,.slice eo m.ext.length ec,.slice po m.ports.length pc,.bool m.con] 48)).heap.size (w.alloc (.cells #[.int .u32 m.pages,.slice eo m.ext.length ec,.slice po m.ports.length pc,.bool m.con] 48)) V)=>man_cells (m:=m) ((hV.block _ (lQ hblk)).trans hblk)
 have HR0:Hid (eRel (w.alloc (.cells #[.int .u32 m.pages,.slice eo m.ext.length ec,.slice po m.ports.length pc,.bool m.con] 48)) m (.int .i64 0) (w.alloc (.cells #[.int .u32 m.pages,.slice eo m.ext.length ec,.slice po m.ports.length pc,.bool m.con] 48))):=Lh ⟨0,by omega,rfl,fun k hk=>absurd hk (Nat.not_lt_zero _),Below.refl _ _⟩;have HFin:Hid (∀V b,Gp.mayM m=b→Below (w.alloc (.cells #[.int .u32 m.pages,.slice eo m.ext.length ec,.slice po m.ports.length pc,.bool m.con] 48)).heap.size (w.alloc (.cells #[.int .u32 m.pages,.slice eo m.ext.length ec,.slice po m.ports.length pc,.bool m.con] 48)) V→(fun e w'=>e=Ending.returned (.bool (Gp.mayM m))∧Below w.heap.size w w') (.returned (.bool b)) V):=Lh fun V b h1 h2=>⟨by rw[h1],bQ HB.out h2⟩
 generalize (fun e w'=>e=Ending.returned (.bool (Gp.mayM m))∧Below w.heap.size w w')=PQ at*;clear hb hblk hm hok;generalize hw1:w.alloc (.cells #[.int .u32 m.pages,.slice eo m.ext.length ec,.slice po m.ports.length pc,.bool m.con] 48)=w1 at*;go_enter func204,ntmps204;go_wp2;try rw[hw1]
 clear hw1;go_loopw [3,4] (fun vi _ wr=>eRel w1 m vi wr) (fun vi _ _=>m.ext.length - (intOf vi).toNat)
 case atStart=>exact HR0.out
 case round=>
  clear HR0;obtain⟨i,hi,rfl,hall,hbw⟩:=hrel;have HAll:=Lh hall;have HBw:=Lh hbw;obtain⟨c0,c1,c2,c3,cf⟩:=HC.out wr hbw
  by_cases hin:i<m.ext.length
  ·obtain⟨x,hx⟩:∃x,m.ext[i]? =some x:=⟨_,Zg hin⟩;obtain⟨g,off,rfl,k0,k1⟩:=ext_cellsR (HM.out wr (bQ HB.out hbw)).e hx;have hok:=HOk.out.e x (List.mem_of_getElem? hx);obtain⟨x0,x1⟩:=x;obtain⟨b0,b1,b2,b3⟩:=hok;have HX:=Lh hx;have hi1:(i:Int)<m.ext.length:=by omega
   clear hall hbw hx
   by_cases d1:16≤x0
   ·have e1:decide (16≤x0)=true:=decide_eq_true d1;have hend:=fun V=>HFin.out V false (may_ext (k:=i) fun h=>by have:=(h _ HX.out).1;simp[Gp.badX] at this;omega)
    have HEnd:=Lh hend;clear hend;go_wp2;go_quiet (fail);go_wp2;exact HEnd.out _ (drewN_below (HBw.out.alloc HBw.out.size _) _)
   have e1:decide (16≤x0)=false:=decide_eq_false d1
   by_cases d2:x1<1
   ·have e2:decide (x1<1)=true:=decide_eq_true d2;have hend:=fun V=>HFin.out V false (may_ext (k:=i) fun h=>by have:=(h _ HX.out).1;simp[Gp.badX] at this;omega)
    have HEnd:=Lh hend;clear hend;go_wp2;go_quiet (fail);go_wp2;exact HEnd.out _ (drewN_below (HBw.out.alloc HBw.out.size _) _)
   have e2:decide (x1<1)=false:=decide_eq_false d2
   by_cases d3:1024<x1
   ·have e3:decide (1024<x1)=true:=decide_eq_true d3;have hend:=fun V=>HFin.out V false (may_ext (k:=i) fun h=>by have:=(h _ HX.out).1;simp[Gp.badX] at this;omega)
    have HEnd:=Lh hend;clear hend;go_wp2;go_quiet (fail);go_wp2;exact HEnd.out _ (drewN_below (HBw.out.alloc HBw.out.size _) _)
   have e3:decide (1024<x1)=false:=decide_eq_false d3;have HGd:Hid (Gp.badX (x0,x1)=false):=Lh (by simp[Gp.badX];omega)
   by_cases d4:i=0
   ·have e4:decide ((0:Int)<i)=false:=decide_eq_false (by omega);have e4n:decide (0<i)=false:=decide_eq_false (by omega);have HS:Hid (eOk m.ext i):=Lh (fun x hx=>by rw[HX.out] at hx;cases hx;exact⟨HGd.out,fun y hk=>by omega⟩);clear d4;go_wp2;go_quiet (fail);go_wp2;refine⟨⟨i+1,by omega,by go_num,fun k hk=> ?_,drewN_below (HBw.out.alloc HBw.out.size _) _⟩,by simp[intOf];omega⟩;rcases Nat.lt_or_ge k i with q|q
    ·exact HAll.out k q
    ·obtain rfl:k=i:=by omega
     exact HS.out
   have e4:decide ((0:Int)<i)=true:=decide_eq_true (by omega);have e4n:decide (0<i)=true:=decide_eq_true (by omega);obtain⟨y,hy⟩:∃y,m.ext[i - 1]? =some y:=⟨_,Zg (by omega)⟩;obtain⟨g',off',hgo,k2,k3⟩:=ext_cellsR (HM.out wr (bQ HB.out HBw.out)).e hy;obtain⟨rfl,rfl⟩:g=g'∧off=off':=by simpa using hgo
   have hw:IntKind.i64.wrap ((i:Int) - 1)=((i - 1:Nat):Int):=by rw[IntKind.wrap_i64];omega
   have HY:=Lh hy;clear hy hgo;obtain⟨y0,y1⟩:=y;have hj0:(0:Int)≤((i - 1:Nat):Int):=by omega
   have hj1:((i - 1:Nat):Int)<m.ext.length:=by omega
   obtain⟨j,hj⟩:∃j,i - 1=j:=⟨_,rfl⟩;rw[hj] at k2 k3 hw hj0 hj1 HY
   by_cases d5:x0≤y0
   ·have e5:decide (x0≤y0)=true:=decide_eq_true d5;have hend:=fun V=>HFin.out V false (may_ext (k:=i) fun h=>by have:=(h _ HX.out).2 _ (by omega) (by rw[hj];exact HY.out);simp at this;omega)
    have HEnd:=Lh hend;clear hend d5 hj d4;have hbk:=heap_alloc_new wr (.cells #[.int .u32 x0,.int .u32 x1] 317);have hal:=(Below.refl wr.heap.size wr).alloc (Nat.le_refl _) (.cells #[.int .u32 x0,.int .u32 x1] 317);obtain⟨z0,z1,zf⟩:=two_of hbk;have k2':=cQ hal k2;have c1':=cQ hal c1;go_wp2;refine B (fun V=>V.cell? ⟨wr.heap.size,0,none⟩=some (.int .u32 x0)∧V.cell? ⟨wr.heap.size,1,none⟩=some (.int .u32 x1)∧V.cell? ⟨w.heap.size,1,none⟩=some (.slice (some ⟨g,off,none⟩) m.ext.length ec)∧V.cell? ⟨g,off+j*2,none⟩=some (.int .u32 y0)) ⟨z0,z1,c1',k2'⟩ fun wd hwd hS=> ?_
    have HWd:Hid (Below w1.heap.size w1 wd):=Lh (by rw[hwd];exact(HBw.out.alloc HBw.out.size _).drew);clear hwd z0 z1 zf k2' c1' hbk hal c0 c1 c2 c3 cf k0 k1 k2 k3;refine T 0 hS ?_;refine T 1 hS ?_;refine T 2 hS ?_;refine T 3 hS ?_;refine T 4 hS ?_;refine T 5 hS ?_;refine T 6 hS ?_;refine T 7 hS ?_;refine T 8 hS ?_;refine T 9 hS ?_;refine T 10 hS ?_;refine T 11 hS ?_;refine T 12 hS ?_;refine T 13 hS ?_;refine T 14 hS ?_;refine T 15 hS ?_;refine T 16 hS ?_;refine T 17 hS ?_;refine T 18 hS ?_;refine T 19 hS ?_;refine T 20 hS ?_;refine T 21 hS ?_;refine T 22 hS ?_;refine T 23 hS ?_;refine T 24 hS ?_;refine T 25 hS ?_;refine T 26 hS ?_;refine T 27 hS ?_;refine T 28 hS ?_;refine wpAnyH_done (by kernel_rfl) ?_ _;clear hS;go_wp2;exact HEnd.out _ HWd.out
   ·have e5:decide (x0≤y0)=false:=decide_eq_false d5;have HS:Hid (eOk m.ext i):=Lh (fun x hx=>by rw[HX.out] at hx;cases hx;exact⟨HGd.out,fun y hk hy=>by rw[hj,HY.out] at hy;cases hy;show y0<x0;omega⟩);clear d5 hj d4;have hbk:=heap_alloc_new wr (.cells #[.int .u32 x0,.int .u32 x1] 317);have hal:=(Below.refl wr.heap.size wr).alloc (Nat.le_refl _) (.cells #[.int .u32 x0,.int .u32 x1] 317);obtain⟨z0,z1,zf⟩:=two_of hbk;have k2':=cQ hal k2;have c1':=cQ hal c1;go_wp2;refine B (fun V=>V.cell? ⟨wr.heap.size,0,none⟩=some (.int .u32 x0)∧V.cell? ⟨wr.heap.size,1,none⟩=some (.int .u32 x1)∧V.cell? ⟨w.heap.size,1,none⟩=some (.slice (some ⟨g,off,none⟩) m.ext.length ec)∧V.cell? ⟨g,off+j*2,none⟩=some (.int .u32 y0)) ⟨z0,z1,c1',k2'⟩ fun wd hwd hS=> ?_
    have HWd:Hid (Below w1.heap.size w1 wd):=Lh (by rw[hwd];exact(HBw.out.alloc HBw.out.size _).drew);clear hwd z0 z1 zf k2' c1' hbk hal c0 c1 c2 c3 cf k0 k1 k2 k3;refine T 0 hS ?_;refine T 1 hS ?_;refine T 2 hS ?_;refine T 3 hS ?_;refine T 4 hS ?_;refine T 5 hS ?_;refine T 6 hS ?_;refine T 7 hS ?_;refine T 8 hS ?_;refine T 9 hS ?_;refine T 10 hS ?_;refine T 11 hS ?_;refine T 12 hS ?_;refine T 13 hS ?_;refine T 14 hS ?_;refine T 15 hS ?_;refine T 16 hS ?_;refine T 17 hS ?_;refine T 18 hS ?_;refine T 19 hS ?_;refine T 20 hS ?_;refine T 21 hS ?_;refine T 22 hS ?_;refine T 23 hS ?_;refine T 24 hS ?_;refine T 25 hS ?_;refine T 26 hS ?_;refine T 27 hS ?_;refine T 28 hS ?_;refine wpAnyH_done (by kernel_rfl) ?_ _;clear hS;go_wp2;refine⟨⟨i+1,by omega,by go_num,fun k hk=> ?_,HWd.out⟩,by simp[intOf];omega⟩;rcases Nat.lt_or_ge k i with q|q
    ·exact HAll.out k q
    ·obtain rfl:k=i:=by omega
     exact HS.out
  ·have hi1:¬(i:Int)<m.ext.length:=by omega
   have HEx:Hid (∀k,k<m.ext.length→eOk m.ext k):=Lh fun k hk=>hall k (by omega)
   have HP0:Hid (pRel w1 m (.int .i64 0) wr):=Lh ⟨0,by omega,rfl,fun k hk=>absurd hk (Nat.not_lt_zero _),hbw⟩;clear hall hbw HAll HBw;go_wp2;clear c0 c1 c2 c3 cf hi1 hi hin;go_loopw [5] (fun vi V=>pRel w1 m vi V) (fun vi _=>m.ports.length - (intOf vi).toNat)
   case atStart=>exact HP0.out
   case round=>
    clear HP0;obtain⟨i,hi,rfl,hall,hbw⟩:=hrel;have HAll:=Lh hall;have HBw:=Lh hbw;obtain⟨c0,c1,c2,c3,cf⟩:=HC.out _ hbw
    by_cases hin:i<m.ports.length
    ·obtain⟨x,hx⟩:∃x,m.ports[i]? =some x:=⟨_,Zg hin⟩;obtain⟨g,off,rfl,k0⟩:=u16_cellR (HM.out _ (bQ HB.out hbw)).p hx;have HX:=Lh hx;have hi1:(i:Int)<m.ports.length:=by omega
     clear hall hbw hx
     by_cases d1:x=0
     ·subst d1;have hend:=fun V=>HFin.out V false (may_port (k:=i) fun h=>(h _ HX.out).1 rfl)
      have HEnd:=Lh hend;clear hend;go_wp2;go_quiet (fail);go_wp2;exact HEnd.out _ (drewN_below HBw.out _)
     have e1:(x == 0)=false:=beq_eq_false_iff_ne.2 d1;have HD1:=Lh d1;clear d1
     by_cases d4:i=0
     ·have e4:decide ((0:Int)<i)=false:=decide_eq_false (by omega);have e4n:decide (0<i)=false:=decide_eq_false (by omega);have HS:Hid (pOk m.ports i):=Lh (fun x hx=>by rw[HX.out] at hx;cases hx;exact⟨HD1.out,fun y hk=>by omega⟩);clear d4;go_wp2;go_quiet (fail);go_wp2;refine⟨⟨i+1,by omega,by go_num,fun k hk=> ?_,drewN_below HBw.out _⟩,by simp[intOf];omega⟩;rcases Nat.lt_or_ge k i with q|q
      ·exact HAll.out k q
      ·obtain rfl:k=i:=by omega
       exact HS.out
     have e4:decide ((0:Int)<i)=true:=decide_eq_true (by omega);have e4n:decide (0<i)=true:=decide_eq_true (by omega);obtain⟨y,hy⟩:∃y,m.ports[i - 1]? =some y:=⟨_,Zg (by omega)⟩;obtain⟨g',off',hgo,k2⟩:=u16_cellR (HM.out _ (bQ HB.out HBw.out)).p hy;obtain⟨rfl,rfl⟩:g=g'∧off=off':=by simpa using hgo
     have hw:IntKind.i64.wrap ((i:Int) - 1)=((i - 1:Nat):Int):=by rw[IntKind.wrap_i64];omega
     have HY:=Lh hy;clear hy hgo;have hj0:(0:Int)≤((i - 1:Nat):Int):=by omega
     have hj1:((i - 1:Nat):Int)<m.ports.length:=by omega
     obtain⟨j,hj⟩:∃j,i - 1=j:=⟨_,rfl⟩;rw[hj] at k2 hw hj0 hj1 HY;have HJ:=Lh hj;have HI0:Hid (0<i):=Lh (by omega);clear hj d4
     by_cases d5:x≤y
     ·have e5:decide (x≤y)=true:=decide_eq_true d5;have hend:=fun V=>HFin.out V false (may_port (k:=i) fun h=>by have hj:=HJ.out;have:=(h x HX.out).2 y HI0.out (by rw[hj];exact HY.out);exact absurd this (by omega))
      have HEnd:=Lh hend;clear hend d5;go_wp2;refine B (fun V=>V.cell? ⟨w.heap.size,2,none⟩=some (.slice (some ⟨g,off,none⟩) m.ports.length pc)∧V.cell? ⟨g,off+i,none⟩=some (.int .u16 x)∧V.cell? ⟨g,off+j,none⟩=some (.int .u16 y)) ⟨c2,k0,k2⟩ fun wd hwd hS=> ?_
      have HWd:Hid (Below w1.heap.size w1 wd):=Lh (by rw[hwd];exact HBw.out.drew);clear hwd c0 c1 c2 c3 cf k0 k2;refine T 0 hS ?_;refine T 1 hS ?_;refine T 2 hS ?_;refine T 3 hS ?_;refine T 4 hS ?_;refine T 5 hS ?_;refine T 6 hS ?_;refine T 7 hS ?_;refine T 8 hS ?_;refine T 9 hS ?_;refine T 10 hS ?_;refine T 11 hS ?_;refine T 12 hS ?_;refine T 13 hS ?_;refine T 14 hS ?_;refine T 15 hS ?_;refine T 16 hS ?_;refine T 17 hS ?_;refine T 18 hS ?_;refine T 19 hS ?_;refine T 20 hS ?_;refine T 21 hS ?_;refine T 22 hS ?_;refine T 23 hS ?_;refine wpAnyH_done (by kernel_rfl) ?_ _;clear hS;go_wp2;exact HEnd.out _ HWd.out
     ·have e5:decide (x≤y)=false:=decide_eq_false d5;have HS:Hid (pOk m.ports i):=Lh (fun x hx=>by rw[HX.out] at hx;cases hx;exact⟨HD1.out,fun y hk hy=>by rw[HJ.out,HY.out] at hy;cases hy;omega⟩);clear d5;go_wp2;refine B (fun V=>V.cell? ⟨w.heap.size,2,none⟩=some (.slice (some ⟨g,off,none⟩) m.ports.length pc)∧V.cell? ⟨g,off+i,none⟩=some (.int .u16 x)∧V.cell? ⟨g,off+j,none⟩=some (.int .u16 y)) ⟨c2,k0,k2⟩ fun wd hwd hS=> ?_
      have HWd:Hid (Below w1.heap.size w1 wd):=Lh (by rw[hwd];exact HBw.out.drew);clear hwd c0 c1 c2 c3 cf k0 k2;refine T 0 hS ?_;refine T 1 hS ?_;refine T 2 hS ?_;refine T 3 hS ?_;refine T 4 hS ?_;refine T 5 hS ?_;refine T 6 hS ?_;refine T 7 hS ?_;refine T 8 hS ?_;refine T 9 hS ?_;refine T 10 hS ?_;refine T 11 hS ?_;refine T 12 hS ?_;refine T 13 hS ?_;refine T 14 hS ?_;refine T 15 hS ?_;refine T 16 hS ?_;refine T 17 hS ?_;refine T 18 hS ?_;refine T 19 hS ?_;refine T 20 hS ?_;refine T 21 hS ?_;refine T 22 hS ?_;refine T 23 hS ?_;refine wpAnyH_done (by kernel_rfl) ?_ _;clear hS;go_wp2;refine⟨⟨i+1,by omega,by go_num,fun k hk=> ?_,HWd.out⟩,by simp[intOf];omega⟩;rcases Nat.lt_or_ge k i with q|q
      ·exact HAll.out k q
      ·obtain rfl:k=i:=by omega
       exact HS.out
    ·have hi1:¬(i:Int)<m.ports.length:=by omega
     have HV:=Lh (may_all HEx.out fun k hk=>hall k (by omega))
     by_cases d1:m.pages≤1024
     ·have e1:decide (m.pages≤1024)=true:=decide_eq_true d1
      by_cases d2:m.ports.length≤16
      ·have e2:decide ((m.ports.length:Int)≤16)=true:=decide_eq_true (by omega);have hend:=fun V=>HFin.out V true (by rw[HV.out,decide_eq_true d1,decide_eq_true d2];rfl)
       have HEnd:=Lh hend;clear hend hall d1 d2 hbw;go_wp2
       first
        |exact HEnd.out _ HBw.out
        |(go_ret;exact HEnd.out _ HBw.out)
      ·have e2:decide ((m.ports.length:Int)≤16)=false:=decide_eq_false (by omega);have hend:=fun V=>HFin.out V false (by rw[HV.out,decide_eq_true d1,decide_eq_false d2];rfl)
       have HEnd:=Lh hend;clear hend hall d1 d2 hbw;go_wp2
       first
        |exact HEnd.out _ HBw.out
        |(go_ret;exact HEnd.out _ HBw.out)
     ·have e1:decide (m.pages≤1024)=false:=decide_eq_false d1;have hend:=fun V=>HFin.out V false (by rw[HV.out,decide_eq_false d1];rfl)
      have HEnd:=Lh hend;clear hend hall d1 hbw;go_wp2
      first
       |exact HEnd.out _ HBw.out
       |(go_ret;exact HEnd.out _ HBw.out)
end R11
end Go.Proofs.YtehihecknhcggaaGreat
