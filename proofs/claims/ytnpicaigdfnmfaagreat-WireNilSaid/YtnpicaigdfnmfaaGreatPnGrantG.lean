/- GrantG, RegU, BusG in one text. -/
import Derived.Test.YtnpicaigdfnmfaaGreatPnBase
import Derived.Test.YtnpicaigdfnmfaaGreatPnKnG
import Derived.Test.YtnpicaigdfnmfaaGreatPnRegT
import Derived.Lib.Hide
import Derived.Outline
import Derived.Test.YtnpicaigdfnmfaaGreatPnPag
import Derived.Laws.EntriesVeiled
import Derived.LoopN
import Derived.Test.YtnpicaigdfnmfaaGreatPnSl21
import Derived.Test.YtnpicaigdfnmfaaGreatPnZa
set_option linter.unusedVariables false
set_option linter.unusedSimpArgs false
set_option maxRecDepth 100000
set_option maxHeartbeats 16000000
open Go.Proofs.Tryz
namespace Go.Proofs.YtnpicaigdfnmfaaGreat.Cl
open Go.RowKit
def At(w:World)(a:Option Addr)(xs:List Value):Prop:=∀(j:Nat) (u:Value),xs[j]? =some u→∃g o,a=some ⟨g,o,none⟩∧w.cell? ⟨g,o+j,none⟩=some u
theorem At.below{w w':World}{a:Option Addr}{xs:List Value}(h:At w a xs)(hb:Below w.heap.size w w'):At w' a xs:=fun j u hu=>by
 obtain⟨g,o,e,hc⟩:=h j u hu;have hl:g<w.heap.size:=by
  unfold World.cell? at hc;cases hg:w.heap[g]? with
  |none=>rw[hg] at hc;cases hc
  |some _=>exact lQ hg
 exact⟨g,o,e,(World.cell?_of_block (w:=w) (hb.block _ hl)).trans hc⟩
theorem info_u32:(Tryz.prog.info? 42).map (fun i=>(i.zero,i.size,i.bytes))=some (some (.int .u32 0),1,4):=by kernel_rfl
theorem clone_u32{w:World}{a:Option Addr}{n cap:Nat}{xs:List Value}(hl:xs.length=n*1)(hc:At w a xs)(hs:n≤2000000)(h1:∀u,u∈xs→u.oneCell'=true):
  Calls Tryz.prog 60 #[.slice a n cap] w fun e w'=>∃v',e=.returned v'∧SlV w' 42 1 v' n xs∧(∀b,v'.ownBlock=some b→w.heap.size≤b∧b<w'.heap.size)∧Below w.heap.size w w':=by
 obtain⟨i0,hi0,hz0,hz1,hz2⟩:=info_parts info_u32
 by_cases h0:n=0
 ·subst h0;obtain rfl:xs=[]:=List.length_eq_zero_iff.1 (by omega);clear hc;cases a with
  |none=>
   have hq:=fun W=>Lib.run_eql_slice_nil (P:=Tryz.prog) W _ _ none 0 cap 0 0 Tryz.underlying41
   go_enter func60,ntmps60;go_wp2
   first
    |(go_ret;exact⟨_,rfl,SlV.nil _ _ _,fun b hb=>(nomatch hb),Below.refl _ _⟩)
    |(refine bodyPost_ret (v:=.slice none 0 0) (by simp[results,Tryz.results60,go_sem, *]) rfl ?_;exact⟨_,rfl,SlV.nil _ _ _,fun b hb=>(nomatch hb),Below.refl _ _⟩)
  |some p=>
   have hq:=fun W=>Lib.run_eql_slice_nil (P:=Tryz.prog) W _ _ (some p) 0 cap 0 0 Tryz.underlying41
   have HB:Hid (Below w.heap.size w (w.alloc (.cells #[] 42))):=Lh (Ba _);have HL:Hid (SlV (w.alloc (.cells #[] 42)) 42 1 (.slice (some ⟨w.heap.size,0,none⟩) 0 0) 0 []):=Lh ⟨rfl,.inl ⟨rfl,_,rfl⟩⟩;go_enter func60,ntmps60;go_wp2;go_ret;exact⟨_,rfl,HL.out,fun b hb=>by injection hb with hb;exact⟨Nat.le_of_eq hb,by rw[←hb];simp⟩,HB.out⟩
 ·obtain⟨u,hu⟩:∃u,xs[0]? =some u:=⟨_,Zg (by omega)⟩;obtain⟨g,off,rfl,_⟩:=hc 0 u hu;have hcl:∀j u,xs[j]? =some u→(w.alloc (.cells #[] 42)).cell? ((⟨g,off,none⟩:Addr).add j)=some u:=fun j u hu=>by
   obtain⟨g',o',e,hcc⟩:=hc j u hu;simp only[Option.some.injEq,Addr.mk.injEq,and_true] at e;obtain⟨rfl,rfl⟩:=e;have hlt:g<w.heap.size:=by
    unfold World.cell? at hcc;cases hg:w.heap[g]? with
    |none=>rw[hg] at hcc;cases hcc
    |some _=>exact lQ hg
   rw[Addr.add_lit];exact(World.cell?_of_block (w:=w) (Below.heap_alloc _ _ _ hlt)).trans hcc
  have hq:=fun W=>Lib.run_eql_slice_nil (P:=Tryz.prog) W _ _ (some ⟨g,off,none⟩) n cap 0 0 Tryz.underlying41
  have HB:Hid (Below w.heap.size w (w.alloc (.cells #[] 42))):=Lh (Ba _);have HN:Hid (SlV (w.alloc (.cells #[] 42)) 42 1 (.slice (some ⟨w.heap.size,0,none⟩) 0 0) 0 []):=Lh ⟨rfl,.inl ⟨rfl,_,rfl⟩⟩;have HC:=Lh hcl;have HLn:=Lh hl;have H1:=Lh h1;have hml:n≤maxLen:=by unfold maxLen;omega
  clear hcl hc hl h1 hu;go_enter func60,ntmps60;go_wp2_with (at_builtin;refine wpList_append_slv _ rfl _ _ 41 rfl 42 i0 (.int .u32 0) 1 4 Tryz.underlying41 hi0 hz0 hz1 hz2 rfl (by decide) _ 0 [] rfl HN.out ⟨g,off,none⟩ n cap xs rfl (by omega) HLn.out HC.out H1.out (by omega) (by omega) ?_;intro v2 w2 hl2 hm2 hb2);go_ret;refine⟨v2,rfl, ?_, ?_, ?_⟩
  ·have:=hl2;rw[Nat.zero_add,List.nil_append] at this;exact this
  ·intro b hb;refine⟨?_, ?_⟩
   ·have hb3:v2.ownBlock=some w.heap.size∨∃k,v2.ownBlock=some k∧(w.alloc (.cells #[] 42)).heap.size≤k:=hb2;rcases hb3 with g2|⟨k,g2,g3⟩
    ·rw[g2] at hb
     injection hb with hb
     exact Nat.le_of_eq hb
    ·rw[g2] at hb
     injection hb with hb
     simp at g3;omega
   ·obtain⟨g,q1,q2⟩:=SlV.lt hl2 (by omega);have hb':v2.ownBlock=some b:=hb;rw[q1] at hb'
    injection hb' with hb'
    omega
  ·refine Mod.below HB.out hm2 (by simp) fun i _ hi=> ?_
   injection hi with hi
   exact Nat.le_of_eq hi
theorem info_ext:(Tryz.prog.info? 290).map (fun i=>(i.zero,i.size,i.bytes))=some (some (.agg #[.int .u32 0,.int .u32 0]),2,8):=by kernel_rfl
theorem clone_ext{w:World}{a:Option Addr}{n cap:Nat}{xs:List Value}(hl:xs.length=n*2)(hc:At w a xs)(hs:n≤2000000)(h1:∀u,u∈xs→u.oneCell'=true):
  Calls Tryz.prog 135 #[.slice a n cap] w fun e w'=>∃v',e=.returned v'∧SlV w' 290 2 v' n xs∧(∀b,v'.ownBlock=some b→w.heap.size≤b∧b<w'.heap.size)∧Below w.heap.size w w':=by
 obtain⟨i0,hi0,hz0,hz1,hz2⟩:=info_parts info_ext
 by_cases h0:n=0
 ·subst h0;obtain rfl:xs=[]:=List.length_eq_zero_iff.1 (by omega);clear hc;cases a with
  |none=>
   have hq:=fun W=>Lib.run_eql_slice_nil (P:=Tryz.prog) W _ _ none 0 cap 0 0 Tryz.underlying107
   go_enter func135,ntmps135;go_wp2
   first
    |(go_ret;exact⟨_,rfl,SlV.nil _ _ _,fun b hb=>(nomatch hb),Below.refl _ _⟩)
    |(refine bodyPost_ret (v:=.slice none 0 0) (by simp[results,Tryz.results135,go_sem, *]) rfl ?_;exact⟨_,rfl,SlV.nil _ _ _,fun b hb=>(nomatch hb),Below.refl _ _⟩)
  |some p=>
   have hq:=fun W=>Lib.run_eql_slice_nil (P:=Tryz.prog) W _ _ (some p) 0 cap 0 0 Tryz.underlying107
   have HB:Hid (Below w.heap.size w (w.alloc (.cells #[] 290))):=Lh (Ba _);have HL:Hid (SlV (w.alloc (.cells #[] 290)) 290 2 (.slice (some ⟨w.heap.size,0,none⟩) 0 0) 0 []):=Lh ⟨rfl,.inl ⟨rfl,_,rfl⟩⟩;go_enter func135,ntmps135;go_wp2;go_ret;exact⟨_,rfl,HL.out,fun b hb=>by injection hb with hb;exact⟨Nat.le_of_eq hb,by rw[←hb];simp⟩,HB.out⟩
 ·obtain⟨u,hu⟩:∃u,xs[0]? =some u:=⟨_,Zg (by omega)⟩;obtain⟨g,off,rfl,_⟩:=hc 0 u hu;have hcl:∀j u,xs[j]? =some u→(w.alloc (.cells #[] 290)).cell? ((⟨g,off,none⟩:Addr).add j)=some u:=fun j u hu=>by
   obtain⟨g',o',e,hcc⟩:=hc j u hu;simp only[Option.some.injEq,Addr.mk.injEq,and_true] at e;obtain⟨rfl,rfl⟩:=e;have hlt:g<w.heap.size:=by
    unfold World.cell? at hcc;cases hg:w.heap[g]? with
    |none=>rw[hg] at hcc;cases hcc
    |some _=>exact lQ hg
   rw[Addr.add_lit];exact(World.cell?_of_block (w:=w) (Below.heap_alloc _ _ _ hlt)).trans hcc
  have hq:=fun W=>Lib.run_eql_slice_nil (P:=Tryz.prog) W _ _ (some ⟨g,off,none⟩) n cap 0 0 Tryz.underlying107
  have HB:Hid (Below w.heap.size w (w.alloc (.cells #[] 290))):=Lh (Ba _);have HN:Hid (SlV (w.alloc (.cells #[] 290)) 290 2 (.slice (some ⟨w.heap.size,0,none⟩) 0 0) 0 []):=Lh ⟨rfl,.inl ⟨rfl,_,rfl⟩⟩;have HC:=Lh hcl;have HLn:=Lh hl;have H1:=Lh h1;have hml:n≤maxLen:=by unfold maxLen;omega
  clear hcl hc hl h1 hu;go_enter func135,ntmps135;go_wp2_with (at_builtin;refine wpList_append_slv _ rfl _ _ 107 rfl 290 i0 (.agg #[.int .u32 0,.int .u32 0]) 2 8 Tryz.underlying107 hi0 hz0 hz1 hz2 rfl (by decide) _ 0 [] rfl HN.out ⟨g,off,none⟩ n cap xs rfl (by omega) HLn.out HC.out H1.out (by omega) (by omega) ?_;intro v2 w2 hl2 hm2 hb2);go_ret;refine⟨v2,rfl, ?_, ?_, ?_⟩
  ·have:=hl2;rw[Nat.zero_add,List.nil_append] at this;exact this
  ·intro b hb;refine⟨?_, ?_⟩
   ·have hb3:v2.ownBlock=some w.heap.size∨∃k,v2.ownBlock=some k∧(w.alloc (.cells #[] 290)).heap.size≤k:=hb2;rcases hb3 with g2|⟨k,g2,g3⟩
    ·rw[g2] at hb
     injection hb with hb
     exact Nat.le_of_eq hb
    ·rw[g2] at hb
     injection hb with hb
     simp at g3;omega
   ·obtain⟨g,q1,q2⟩:=SlV.lt hl2 (by omega);have hb':v2.ownBlock=some b:=hb;rw[q1] at hb'
    injection hb' with hb'
    omega
  ·refine Mod.below HB.out hm2 (by simp) fun i _ hi=> ?_
   injection hi with hi
   exact Nat.le_of_eq hi
theorem info_u16:(Tryz.prog.info? 22).map (fun i=>(i.zero,i.size,i.bytes))=some (some (.int .u16 0),1,2):=by kernel_rfl
theorem clone_u16{w:World}{a:Option Addr}{n cap:Nat}{xs:List Value}(hl:xs.length=n*1)(hc:At w a xs)(hs:n≤2000000)(h1:∀u,u∈xs→u.oneCell'=true):
  Calls Tryz.prog 136 #[.slice a n cap] w fun e w'=>∃v',e=.returned v'∧SlV w' 22 1 v' n xs∧(∀b,v'.ownBlock=some b→w.heap.size≤b∧b<w'.heap.size)∧Below w.heap.size w w':=by
 obtain⟨i0,hi0,hz0,hz1,hz2⟩:=info_parts info_u16
 by_cases h0:n=0
 ·subst h0;obtain rfl:xs=[]:=List.length_eq_zero_iff.1 (by omega);clear hc;cases a with
  |none=>
   have hq:=fun W=>Lib.run_eql_slice_nil (P:=Tryz.prog) W _ _ none 0 cap 0 0 Tryz.underlying106
   go_enter func136,ntmps136;go_wp2
   first
    |(go_ret;exact⟨_,rfl,SlV.nil _ _ _,fun b hb=>(nomatch hb),Below.refl _ _⟩)
    |(refine bodyPost_ret (v:=.slice none 0 0) (by simp[results,Tryz.results136,go_sem, *]) rfl ?_;exact⟨_,rfl,SlV.nil _ _ _,fun b hb=>(nomatch hb),Below.refl _ _⟩)
  |some p=>
   have hq:=fun W=>Lib.run_eql_slice_nil (P:=Tryz.prog) W _ _ (some p) 0 cap 0 0 Tryz.underlying106
   have HB:Hid (Below w.heap.size w (w.alloc (.cells #[] 22))):=Lh (Ba _);have HL:Hid (SlV (w.alloc (.cells #[] 22)) 22 1 (.slice (some ⟨w.heap.size,0,none⟩) 0 0) 0 []):=Lh ⟨rfl,.inl ⟨rfl,_,rfl⟩⟩;go_enter func136,ntmps136;go_wp2;go_ret;exact⟨_,rfl,HL.out,fun b hb=>by injection hb with hb;exact⟨Nat.le_of_eq hb,by rw[←hb];simp⟩,HB.out⟩
 ·obtain⟨u,hu⟩:∃u,xs[0]? =some u:=⟨_,Zg (by omega)⟩;obtain⟨g,off,rfl,_⟩:=hc 0 u hu;have hcl:∀j u,xs[j]? =some u→(w.alloc (.cells #[] 22)).cell? ((⟨g,off,none⟩:Addr).add j)=some u:=fun j u hu=>by
   obtain⟨g',o',e,hcc⟩:=hc j u hu;simp only[Option.some.injEq,Addr.mk.injEq,and_true] at e;obtain⟨rfl,rfl⟩:=e;have hlt:g<w.heap.size:=by
    unfold World.cell? at hcc;cases hg:w.heap[g]? with
    |none=>rw[hg] at hcc;cases hcc
    |some _=>exact lQ hg
   rw[Addr.add_lit];exact(World.cell?_of_block (w:=w) (Below.heap_alloc _ _ _ hlt)).trans hcc
  have hq:=fun W=>Lib.run_eql_slice_nil (P:=Tryz.prog) W _ _ (some ⟨g,off,none⟩) n cap 0 0 Tryz.underlying106
  have HB:Hid (Below w.heap.size w (w.alloc (.cells #[] 22))):=Lh (Ba _);have HN:Hid (SlV (w.alloc (.cells #[] 22)) 22 1 (.slice (some ⟨w.heap.size,0,none⟩) 0 0) 0 []):=Lh ⟨rfl,.inl ⟨rfl,_,rfl⟩⟩;have HC:=Lh hcl;have HLn:=Lh hl;have H1:=Lh h1;have hml:n≤maxLen:=by unfold maxLen;omega
  clear hcl hc hl h1 hu;go_enter func136,ntmps136;go_wp2_with (at_builtin;refine wpList_append_slv _ rfl _ _ 106 rfl 22 i0 (.int .u16 0) 1 2 Tryz.underlying106 hi0 hz0 hz1 hz2 rfl (by decide) _ 0 [] rfl HN.out ⟨g,off,none⟩ n cap xs rfl (by omega) HLn.out HC.out H1.out (by omega) (by omega) ?_;intro v2 w2 hl2 hm2 hb2);go_ret;refine⟨v2,rfl, ?_, ?_, ?_⟩
  ·have:=hl2;rw[Nat.zero_add,List.nil_append] at this;exact this
  ·intro b hb;refine⟨?_, ?_⟩
   ·have hb3:v2.ownBlock=some w.heap.size∨∃k,v2.ownBlock=some k∧(w.alloc (.cells #[] 22)).heap.size≤k:=hb2;rcases hb3 with g2|⟨k,g2,g3⟩
    ·rw[g2] at hb
     injection hb with hb
     exact Nat.le_of_eq hb
    ·rw[g2] at hb
     injection hb with hb
     simp at g3;omega
   ·obtain⟨g,q1,q2⟩:=SlV.lt hl2 (by omega);have hb':v2.ownBlock=some b:=hb;rw[q1] at hb'
    injection hb' with hb'
    omega
  ·refine Mod.below HB.out hm2 (by simp) fun i _ hi=> ?_
   injection hi with hi
   exact Nat.le_of_eq hi
end Go.Proofs.YtnpicaigdfnmfaaGreat.Cl
namespace Go.Proofs.YtnpicaigdfnmfaaGreat
open Go.RowKit
namespace Ca
def hardOk(hp:Int)(xs:List Int):Bool:=decide (hp≤4096)&&decide (xs.length≤16)&&xs.all (fun x=>decide (x≤1024))
def hardE(hp:Int)(xs:List Int):Int:=if hardOk hp xs=true then 0 else 2
theorem hardE_no{hp:Int}{xs:List Int}(h:hardOk hp xs=false):hardE hp xs=2:=by unfold hardE;rw[h];rfl
theorem hardE_yes{hp:Int}{xs:List Int}(h:hardOk hp xs=true):hardE hp xs=0:=by unfold hardE;rw[h];rfl
def ckRel(w:World)(xs:List Int)(vi:Value)(wr:World):Prop:=∃i:Nat,i≤xs.length∧vi=.int .i64 i∧(∀(k:Nat) (x:Int),k<i→xs[k]? =some x→x≤1024)∧Below w.heap.size w wr
theorem words_below{w w':World}{a:Option Addr}{xs:List Int}(h:Rs.Words w a xs)(hb:Below w.heap.size w w'):Rs.Words w' a xs:=by
 refine⟨fun i hi=> ?_,h.len⟩;obtain⟨g,o,e,hc⟩:=h.cell i hi;have hl:g<w.heap.size:=by
  unfold World.cell? at hc;cases hg:w.heap[g]? with
  |none=>rw[hg] at hc;cases hc
  |some _=>exact lQ hg
 exact⟨g,o,e,(World.cell?_of_block (w:=w) (hb.block _ hl)).trans hc⟩
theorem words_at{w:World}{a:Option Addr}{xs:List Int}(h:Rs.Words w a xs):Cl.At w a (xs.map (Value.int .u32)):=fun j u hu=>by
 have hj:j<xs.length:=by have:=(List.getElem?_eq_some_iff.1 hu).1;simpa using this
 obtain⟨g,o,e,hc⟩:=h.cell j hj;refine⟨g,o,e,hc.trans ?_⟩;rw[←hu,List.getElem?_map,Zg hj];rfl
theorem check{w:World}{a:Option Addr}{cap:Nat}{hp:Int}{xs:List Int}(h:Rs.Words w a xs)(hb0:∀x,x∈xs→0≤x∧x≤4294967295)(p0:0≤hp):
  Calls Tryz.prog 191 #[.agg #[.int .u32 hp,.slice a xs.length cap]] w fun e w'=>e=.returned (.int .i64 (hardE hp xs))∧Below w.heap.size w w':=by
 have hl:=h.len;have HW:=Lh fun V (hV:Below w.heap.size w V)=>words_below h hV
 have hb:Below w.heap.size w (w.alloc (.cells #[.int .u32 hp,.slice a xs.length cap] 120)):=Ba _;have HB:=Lh hb;clear hb h
 by_cases h1:4096<hp
 ·have HE:Hid (hardOk hp xs=false):=Lh (by unfold hardOk;rw[decide_eq_false (by omega)];rfl);go_enter func191,ntmps191;go_wp2;go_ret;exact⟨by rw[hardE_no HE.out];rfl,HB.out⟩
 by_cases h2:16<xs.length
 ·have HE:Hid (hardOk hp xs=false):=Lh (by unfold hardOk;rw[decide_eq_false (show¬xs.length≤16 by omega)];simp);go_enter func191,ntmps191;go_wp2;go_ret;exact⟨by rw[hardE_no HE.out];rfl,HB.out⟩
 have HA:Hid (hardOk hp xs=xs.all (fun x=>decide (x≤1024))):=Lh (by unfold hardOk;rw[decide_eq_true (by omega),decide_eq_true (by omega)];simp);go_enter func191,ntmps191;go_wp2;go_loopw [4,17] (fun _ vi wr=>ckRel w xs vi wr) (fun _ vi _=>xs.length - (intOf vi).toNat)
 case atStart=>exact⟨0,by omega,by go_num,fun k x hk=>absurd hk (Nat.not_lt_zero _),HB.out⟩
 case round=>
  obtain⟨i,hi,rfl,hno,hbw⟩:=hrel;have HNo:=Lh hno;have HB1:=Lh hbw;clear hno
  by_cases hin:i<xs.length
  ·obtain⟨g,off,rfl,hc⟩:=(HW.out wr hbw).cell i hin;have HX:Hid (xs[i]? =some xs[i]):=Lh (Zg hin);generalize xs[i]=x at*;clear hbw
   by_cases hx:1024<x
   ·have HE:Hid (xs.all (fun x=>decide (x≤1024))=false):=Lh (by
     rw[List.all_eq_false];exact⟨x,List.mem_of_getElem? HX.out,by simp;omega⟩)
    go_wp2;go_ret;exact⟨by rw[hardE_no (HA.out.trans HE.out)];rfl,HB1.out⟩
   ·go_wp2;refine⟨⟨i+1,by omega,by go_num,fun k y hk hy=> ?_,HB1.out⟩,by simp[intOf];omega⟩;rcases Nat.lt_or_ge k i with q|q
    ·exact HNo.out k y q hy
    ·obtain rfl:k=i:=by omega
     rw[HX.out] at hy;cases hy;omega
  ·have HE:Hid (xs.all (fun x=>decide (x≤1024))=true):=Lh (by
    rw[List.all_eq_true];intro x hx;obtain⟨k,hk⟩:=List.getElem?_of_mem hx;exact decide_eq_true (HNo.out k x (by have:=(List.getElem?_eq_some_iff.1 hk).1;omega) hk))
   clear hbw;go_wp2;go_ret;exact⟨by rw[hardE_yes (HA.out.trans HE.out)];rfl,HB1.out⟩
def NewPost(w:World)(hp:Int)(xs:List Int)(e:Ending)(w':World):Prop:=
 ∃cb mb hv,e=.returned (.tuple #[.pointer (some ⟨cb,0,none⟩),.int .i64 0])∧Cps w' ⟨cb,mb,hv,fun _=>cb,fun _=>.slice none 0 0,fun _=>.slice none 0 0⟩ hp (fun _=>none)∧SlV w' 42 1 hv xs.length (xs.map (Value.int .u32))∧(∀b,hv.ownBlock=some b→w.heap.size≤b∧b<w'.heap.size∧b≠cb∧b≠mb)∧w.heap.size≤mb∧w.heap.size≤cb∧Below w.heap.size w w'
theorem u32_one(xs:List Int):∀u,u∈xs.map (Value.int .u32)→u.oneCell'=true:=fun u hu=>by
 obtain⟨x,_,rfl⟩:=List.mem_map.1 hu;rfl
theorem new{w:World}{a:Option Addr}{cap:Nat}{hp:Int}{xs:List Int}(h:Rs.Words w a xs)(hb0:∀x,x∈xs→0≤x∧x≤4294967295)(p0:0≤hp)(hk:hardOk hp xs=true):
  Calls Tryz.prog 140 #[.agg #[.int .u32 hp,.slice a xs.length cap]] w (NewPost w hp xs):=by
 have hmm:= @run_makeMap Tryz.prog;have hln:xs.length≤16:=by
  unfold hardOk at hk;simp at hk;omega
 have hb:Below w.heap.size w (w.alloc (.cells #[.int .u32 hp,.slice a xs.length cap] 120)):=Ba _;have hblk:=heap_alloc_new w (.cells #[.int .u32 hp,.slice a xs.length cap] 120);have hch:=check (cap:=cap) (words_below h hb) hb0 p0;rw[hardE_yes hk] at hch;have HCh:=Lh hch;have HW:=Lh fun V (hV:Below w.heap.size w V)=>Cl.clone_u32 (cap:=cap) (n:=xs.length) (by simp) (words_at (words_below h hV)) (by omega) (u32_one xs)
 have HFin:Hid (∀V hv,Below w.heap.size w V→w.heap.size<V.heap.size→SlV V 42 1 hv xs.length (xs.map (Value.int .u32))→(∀b,hv.ownBlock=some b→w.heap.size<b∧b<V.heap.size)→NewPost w hp xs (.returned (.tuple #[.pointer (some ⟨V.heap.size+1,0,none⟩),.int .i64 0])) (((V.setCell ⟨w.heap.size,1,none⟩ hv).alloc (.map #[] 0)).alloc (.cells #[.int .u32 hp,hv,.map (some V.heap.size)] 285))):=Lh fun V hv hV hlt hsl ho=>by
  have hm1:Mod (fun i=>i=w.heap.size) V (V.setCell ⟨w.heap.size,1,none⟩ hv):=Mod.setCell (F:=fun i=>i=w.heap.size) (Mod.refl _ _) ⟨w.heap.size,1,none⟩ (.inl rfl) _;have hb1:=Mod.below hV hm1 hV.size fun i _ e=>Nat.le_of_eq e.symm
  have hs1:(V.setCell ⟨w.heap.size,1,none⟩ hv).heap.size=V.heap.size:=by simp[World.setCell]
  have hsl1:=hsl.mod hm1 fun k hk e=>by have:=ho k hk;omega
  generalize V.setCell ⟨w.heap.size,1,none⟩ hv=V1 at*;have hown:=World.ownsMap_made V1 Tryz.prog 3 ptrElem;have hb2:Below V1.heap.size V1 (V1.alloc (.map #[] 0)):=Ba _;have hs2:(V1.alloc (.map #[] 0)).heap.size=V.heap.size+1:=by simp[hs1]
  have hsl2:=hsl1.below hb2;rw[hs1] at hown;generalize V1.alloc (.map #[] 0)=V2 at*;have hnew:=heap_alloc_new V2 (.cells #[.int .u32 hp,hv,.map (some V.heap.size)] 285);have hb3:Below V2.heap.size V2 (V2.alloc (.cells #[.int .u32 hp,hv,.map (some V.heap.size)] 285)):=Ba _;have hz3:(V2.alloc (.cells #[.int .u32 hp,hv,.map (some V.heap.size)] 285)).heap.size=V.heap.size+2:=by simp[hs2]
  rw[hs2] at hnew;exact⟨V.heap.size+1,V.heap.size,hv,rfl,⟨hnew,⟨_,_,hown.alloc _,fun x zd=>by rw[if_neg (by simp)];rfl,rfl⟩,fun n g hg=>(by cases hg),fun n g hg=>(by cases hg),fun n hn=>(by cases hn),fun n m hn=>(by cases hn),p0⟩,hsl2.below hb3,fun b hb=>by have:=ho b hb;exact⟨by omega,by omega,by omega,by omega⟩,by omega,by omega,bQ (bQ hb1 hb2) hb3⟩
 generalize NewPost w hp xs=PQ at*;have HB:=Lh hb;have HBlk:=Lh hblk;clear hch hb h hk hblk;go_enter func140,ntmps140;go_wp2_with fail;refine HCh.out.mono ?_;rintro e w2 ⟨rfl,hb2⟩;have hB2:=bQ HB.out hb2;have hbk2:=(hb2.block _ (lQ HBlk.out)).trans HBlk.out;obtain⟨c0,c1,cf⟩:=two_of hbk2;have HB2:=Lh hB2;have HBk2:=Lh hbk2;clear hb2 hB2 hbk2 HCh;go_wp2_with fail;refine(HW.out _ HB2.out).mono ?_;rintro e w3 ⟨hv,rfl,hsl,ho,hb3⟩;obtain⟨oa,oc,rfl⟩:=hsl.form;have hbk3:=(hb3.block _ (lQ HBk2.out)).trans HBk2.out;obtain⟨c0,c1,cf⟩:=two_of hbk3;have HF3:=Lh (HFin.out w3 _ (bQ HB2.out hb3) (by have:=lQ hbk3;omega) hsl (fun b hb=>by have:=ho b hb;have:=lQ HBk2.out;omega));clear ho hsl hb3 hbk3 HW HFin;go_wp2;exact HF3.out
end Ca
namespace Gp
def freeV(hp:Int)(G:Int→Option Gr):Int:=hp - sum G
def sumL(f:Int→Bool)(G:Int→Option Gr):Int:=sum8 fun k=>if f k=true then 0 else pgs (G k)
theorem sumL_all{f:Int→Bool}{G:Int→Option Gr}(h:∀k,(G k).isSome=true→f k=true):sumL f G=0:=by
 have:∀k,(if f k=true then 0 else pgs (G k))=0:=fun k=>by
  split
  ·rfl
  ·rename_i q
   cases hk:G k with
   |none=>rfl
   |some g=>exact absurd (h k (by rw[hk];rfl)) q
 unfold sumL;rw[sum8_congr this];rfl
theorem sumL_none{f:Int→Bool}{G:Int→Option Gr}(h:∀k,f k=false):sumL f G=sum G:=sum8_congr fun k=>by rw[h k];rfl
theorem sumL_bd{f:Int→Bool}{G:Int→Option Gr}(h:∀k,gok (G k)):0≤sumL f G∧sumL f G≤sum G:=by
 have h0:sum8 (fun _=>0)=0:=rfl
 constructor
 ·rw[←h0];exact sum8_le fun k=>by
   have:=pgs_nn (h k)
   show(0:Int)≤if f k=true then 0 else pgs (G k)
   split<;>omega
 ·exact sum8_le fun k=>by
   have:=pgs_nn (h k)
   show(if f k=true then 0 else pgs (G k))≤pgs (G k)
   split<;>omega
theorem sumL_meet{f f':Int→Bool}{G:Int→Option Gr}{x:Int}(x1:1≤x)(x8:x≤8)(h1:f x=true)(h2:f' x=false)(h3:∀y,y≠x→f' y=f y):sumL f' G=sumL f G+pgs (G x):=by
 unfold sumL;rw[sum8_upd (f:=fun k=>if f k=true then 0 else pgs (G k)) (n:=x) (fun k hk=>by rw[h3 k hk]) x1 x8,h1,h2]
 simp
end Gp
theorem u32_cell{w:World}{ao:Option Addr}{ac:Nat}{l:List Int}(h:SlV w 42 1 (.slice ao l.length ac) l.length (l.map (Value.int .u32))){i:Nat}{x:Int}(hx:l[i]? =some x):∃g off,ao=some ⟨g,off,none⟩∧w.cell? ⟨g,off+i,none⟩=some (.int .u32 x):=by
 have hi:=(List.getElem?_eq_some_iff.1 hx).1;rcases h.2 with⟨h0,_⟩|⟨g,off,cap,cur,hv,hg,_⟩
 ·omega
 ·simp only[Value.slice.injEq] at hv;obtain⟨rfl,_,rfl⟩:=hv;refine⟨g,off,rfl, ?_⟩;rw[h.cell i (by omega),List.getElem?_map,hx];rfl
namespace Ca
theorem entry{G:Int→Option Gr}{gb:Int→Nat}{D:DataW Unit}(hv:∀x zd,D.atKey (.int .i64 x) zd=if(G x).isSome=true then .lit (.int .i64 (gb x)) else zd){x:Int}{y:DataW Unit}(hat:∀zd,D.atKey (.int .i64 x) zd=y):(∃g,G x=some g)∧y=.lit (.int .i64 (gb x)):=by
 by_cases h:(G x).isSome=true
 ·refine⟨Option.isSome_iff_exists.1 h, ?_⟩;rw[←hat y,hv,if_pos h]
 ·have g1:=hat (.lit (.int .i64 0));have g2:=hat (.lit (.int .i64 1));rw[hv,if_neg h] at g1 g2;rw[←g1] at g2;simp at g2
def frRel(w:World)(a:CAt)(hp:Int)(G:Int→Option Gr)(D:DataW Unit)(n r:Nat)(vn:Value)(wr:World):Prop:=
 ∃left cnt,wr.ranges Tryz.prog 3 ptrElem a.mb r n D left cnt∧Below w.heap.size w wr∧vn=.int .u32 (hp - Gp.sumL (fun x=>left (.int .i64 x)) G)∧w.heap.size≤r
section
variable {w:World} {a:CAt} {hp:Int} {G:Int→Option Gr}
theorem free(h:Cps w a hp G)(h1:hp≤4096):Calls Tryz.prog 133 #[.pointer (some ⟨a.cb,0,none⟩)] w fun e w'=>e=.returned (.int .u32 (Gp.freeV hp G))∧Below w.heap.size w w':=by
 have K:=Maps.int_keyed (P:=Tryz.prog) Tryz.underlying3;obtain⟨D,n,ho,hv,hs⟩:=h.map;have Hv:=Lh hv;have H:=Lh h;have Ho:=Lh ho;obtain⟨c0,c1,c2⟩:=h.cells;have HBd:=Lh fun f=>Gp.sumL_bd (f:=f) h.ok
 have HFt:=Lh h.fit;clear h hv hs ho;go_enter func133,ntmps133;go_wp2_with (at_range;refine wpList_range_own _ rfl _ 283 rfl 3 282 K Tryz.underlying283 ptrElem a.mb n D rfl Ho.out ?_;intro w2 hrg hg2 hz2);have h2:frRel w a hp G D n w.heap.size (.int .u32 hp) w2:=by
  refine⟨_,_,hrg,Br.grown hg2 (Nat.le_refl _) (fun k e=>by cases e), ?_,Nat.le_refl _⟩;rw[Gp.sumL_all fun k hk=>Maps.has_true_of_atKey (y:=.lit (.int .i64 (a.gb k))) fun zd=>by rw[Hv.out,if_pos hk]];rw[Int.sub_zero]
 have H2:=Lh h2;obtain⟨r,hr⟩:∃r,w.heap.size=r:=⟨_,rfl⟩;rw[show frRel w a hp G D n w.heap.size=frRel w a hp G D n r by rw[hr]] at H2;rw[hr];clear hr hrg hg2 hz2 h2;go_frame;go_loopw [3,5] (fun vn _ wr=>frRel w a hp G D n r vn wr) (fun _ _ wr=>wr.rangeLeft a.mb r)
 case atStart=>exact H2.out
 case round=>
  clear H2 c0 c1 c2;obtain⟨left,cnt,hrg,hbw,rfl,hr3⟩:=hrel;have Hrg:=Lh hrg;have Hbw:=Lh hbw;have Hr3:=Lh hr3;clear hrg hbw hr3;go_wp2_with (at_next;refine wpList_next_ranges _ rfl _ rfl 3 K ptrElem (Value.int .i64) id (fun key kl hk=>by obtain⟨x,hx,_⟩:=Maps.keyOf_int_inv Tryz.underlying3 hk;exact⟨x,hx⟩) (fun v _ _=>⟨v,rfl⟩) a.mb r n D left cnt rfl Hrg.out ?_ ?_)
  ·intro hc0 hl0;have HV:Hid (Gp.sumL (fun x=>left (.int .i64 x)) G=Gp.sum G):=Lh (Gp.sumL_none fun x=>by rw[hl0]);go_wp2;go_ret;exact⟨by rw[HV.out];rfl,Hbw.out⟩
  ·intro x c kl y1 y2 w3 cnt2 hkey hlk hR hat3 hrg3 hlt hg3 hs3 hen;obtain⟨x',ex,rfl,hwx⟩:=Maps.keyOf_int_inv Tryz.underlying3 hkey;obtain rfl:x=x':=by simpa using ex
   obtain⟨⟨g,hg⟩,rfl⟩:=entry Hv.out hat3;obtain⟨x1,x8⟩:=H.out.dom x (by rw[hg];rfl);obtain rfl:c=.pointer (some ⟨a.gb x,0,none⟩):=by
    rcases ptrElem_inv hR with⟨_,hb⟩|⟨b,e,hb⟩
    ·omega
    ·have:b=a.gb x:=by omega
     subst this;exact e
   have hw3b:Below w.heap.size w w3:=Hbw.out.grown hg3 Hbw.out.size (fun k e=>by cases e;exact Hr3.out);have hC3:=H.out.below hw3b;obtain⟨g0,g1,g2,g3,g4,g5,_⟩:=gr_cells (hC3.grant x g hg).1;have hok:=(H.out.ok x g hg);have p0:=hok.m.p0;have q0:=hok.q0;have HS:Hid (Gp.sumL (fun y=>left (.int .i64 y)&& !(Lit.int .i64 y).sameKey (.int .i64 x)) G=Gp.sumL (fun y=>left (.int .i64 y)) G+(g.m.pages+g.pg)):=Lh (by
    rw[Gp.sumL_meet (f:=fun y=>left (.int .i64 y)) (f':=fun y=>left (.int .i64 y)&& !(Lit.int .i64 y).sameKey (.int .i64 x)) x1 x8 (by exact hlk) (by simp[Lit.sameKey]) (fun y hy=>by
     have:(Lit.int .i64 y).sameKey (.int .i64 x)=false:=by simp[Lit.sameKey];omega
     simp[this]),hg]
    rfl)
   have HBd2:=Lh (HBd.out fun y=>left (.int .i64 y)&& !(Lit.int .i64 y).sameKey (.int .i64 x));rw[HS.out] at HBd2;have HBd1:=Lh (HBd.out fun y=>left (.int .i64 y));obtain⟨s,hs⟩:∃s,Gp.sumL (fun y=>left (.int .i64 y)) G=s:=⟨_,rfl⟩;rw[hs] at HS HBd1 HBd2⊢;have s0:=HBd1.out.1;have s1:s+(g.m.pages+g.pg)≤Gp.sum G:=HBd2.out.2;have s2:=HFt.out;have wr0:IntKind.u32.wrap (g.m.pages+g.pg)=g.m.pages+g.pg:=wrap32 (by omega) (by omega);have wr1:IntKind.u32.wrap (hp - s - (g.m.pages+g.pg))=hp - s - (g.m.pages+g.pg):=wrap32 (by omega) (by omega);have fin:frRel w a hp G D n r (.int .u32 (hp - s - (g.m.pages+g.pg))) w3:=⟨_,cnt2,hrg3,hw3b,by
    rw[HS.out,Int.sub_sub],Hr3.out⟩
   have Fin:=Lh fin;have fin2:frRel w a hp G D n r (.int .u32 (hp - s - (g.m.pages+g.pg))) w3.drew:=by
    obtain⟨l,c,q1,q2,q3,q4⟩:=fin;exact⟨l,c,q1,q2.drew,q3,q4⟩
   have Fin2:=Lh fin2;have hml:w3.rangeLeft a.mb r<cnt:=by rw[hrg3.left_eq];exact hlt
   have hml0:=Hrg.out.left_eq;have HMl:Hid (w3.rangeLeft a.mb r<wr.rangeLeft a.mb r):=Lh (by rw[hml0];exact hml);clear fin fin2 hkey hlk hR hat3 hrg3 hlt hg3 hs3 hw3b hC3 hg hml hml0 ex hwx hs HS s1 hok s2;go_wp2;go_region
   all_goals
    go_wp2;exact⟨by first|exact Fin.out|exact Fin2.out,HMl.out⟩
def extNone(l:List (Int×Int))(n:Nat):Bool:=l.any fun x=>decide ((n:Int)≤x.1)
def extLong(l:List (Int×Int))(hx:List Int):Bool:=l.any fun x=>decide (x.1<hx.length)&&decide (hx.getD x.1.toNat 0<x.2)
def noneE(l:List (Int×Int))(n:Nat):Int:=if extNone l n=true then 3 else 0
def longE(l:List (Int×Int))(hx:List Int):Int:=if extLong l hx=true then 5 else 0
def lpRel(w:World)(l:List (Int×Int))(f:Int×Int→Bool)(vi:Value)(wr:World):Prop:=∃i:Nat,i≤l.length∧vi=.int .i64 i∧(∀(k:Nat) (x:Int×Int),k<i→l[k]? =some x→f x=false)∧Below w.heap.size w wr
theorem any_at{l:List (Int×Int)}{f:Int×Int→Bool}{i:Nat}{x:Int×Int}(h:l[i]? =some x)(hf:f x=true):l.any f=true:=List.any_eq_true.2 ⟨x,List.mem_of_getElem? h,hf⟩
theorem any_no{l:List (Int×Int)}{f:Int×Int→Bool}(h:∀(k:Nat) (x:Int×Int),k<l.length→l[k]? =some x→f x=false):l.any f=false:=by
 rw[List.any_eq_false];intro x hx;obtain⟨k,hk⟩:=List.getElem?_of_mem hx;rw[h k x (List.getElem?_eq_some_iff.1 hk).1 hk]
 simp
theorem hcells(h:Cps w a hp G){V:World}(hV:Below w.heap.size w V)(o:Obj):(V.alloc o).cell? ⟨a.cb,0,none⟩=some (.int .u32 hp)∧(V.alloc o).cell? ⟨a.cb,1,none⟩=some a.hv∧(V.alloc o).cell? ⟨a.cb,2,none⟩=some (.map (some a.mb)):=
 (h.below (hV.alloc hV.size o)).cells
theorem none_any(h:Cps w a hp G){hx:List Int}(hh:SlV w 42 1 a.hv hx.length (hx.map (Value.int .u32)))(hl:hx.length≤16){m:Mn}{ev pv:Value}(hm:MnAt w ev pv m)(hok:m.ok):
  Calls Tryz.prog 187 #[.pointer (some ⟨a.cb,0,none⟩),.agg (m.cells ev pv)] w fun e w'=>e=.returned (.int .i64 (noneE m.ext hx.length))∧Below w.heap.size w w':=by
 obtain⟨ao,ac,rfl⟩:=hm.e.form;obtain⟨ho,hc,hhv⟩:=hh.form;have hcap:=slv_len hm.e;unfold maxLen at hcap;have HCl:=Lh fun V (hV:Below w.heap.size w V) o=>by have:=hcells h hV o;rw[hhv] at this;exact this
 have HE:=Lh fun V (hV:Below w.heap.size w V)=>hm.e.below hV
 have HO:=Lh hok.e;have HB:Hid (Below w.heap.size w (w.alloc (.cells #[.int .u32 m.pages,.slice ao m.ext.length ac,pv,.bool m.con] 109))):=Lh (Ba _);unfold Mn.cells;clear h hm hok hhv hh;go_enter func187,ntmps187;go_wp2;go_loopw [6,10] (fun _ vi wr=>lpRel w m.ext (fun x=>decide ((hx.length:Int)≤x.1)) vi wr) (fun _ vi _=>m.ext.length - (intOf vi).toNat)
 case atStart=>exact⟨0,by omega,by go_num,fun k x hk=>absurd hk (Nat.not_lt_zero _),HB.out⟩
 case round=>
  obtain⟨i,hi,rfl,hno,hbw⟩:=hrel;have HNo:=Lh hno;have HB1:=Lh hbw;clear hno
  by_cases hin:i<m.ext.length
  ·obtain⟨gg,off,rfl,e0,e1⟩:=ext_cells (HE.out wr hbw) (Zg hin);have HX:Hid (m.ext[i]? =some m.ext[i]):=Lh (Zg hin);have hbd:=HO.out _ (List.getElem_mem hin);generalize m.ext[i]=x at*;obtain⟨b0,b1,b2,b3⟩:=hbd;have d0:=fun o=>(HCl.out wr HB1.out o).1
   have d1:=fun o=>(HCl.out wr HB1.out o).2.1
   have HAl:Hid (∀o,Below w.heap.size w (wr.alloc o)):=Lh fun o=>HB1.out.alloc HB1.out.size _
   clear hbw
   by_cases hx1:(hx.length:Int)≤x.1
   ·have HV:Hid (noneE m.ext hx.length=3):=Lh (by unfold noneE extNone;rw[if_pos (any_at (f:=fun x=>decide ((hx.length:Int)≤x.1)) HX.out (decide_eq_true hx1))]);have hd:decide (x.1≥(hx.length:Int))=true:=decide_eq_true hx1;go_wp2;go_region
    all_goals
     go_wp2;go_ret;exact⟨by rw[HV.out];rfl,by first|exact HAl.out _|exact(HAl.out _).drew⟩
   ·have hd:decide (x.1≥(hx.length:Int))=false:=decide_eq_false hx1;have HX1:=Lh hx1;go_wp2;go_region
    all_goals
     go_wp2;refine⟨⟨i+1,by omega,by go_num,fun k y hk hy=> ?_,by first|exact HAl.out _|exact(HAl.out _).drew⟩,by simp[intOf];omega⟩;rcases Nat.lt_or_ge k i with q|q
     ·exact HNo.out k y q hy
     ·obtain rfl:k=i:=by omega
      rw[HX.out] at hy;cases hy;exact decide_eq_false (by have:=HX1.out;omega)
  ·have HV:Hid (noneE m.ext hx.length=0):=Lh (by unfold noneE extNone;rw[any_no (f:=fun x=>decide ((hx.length:Int)≤x.1)) fun k x hk=>HNo.out k x (by omega)];rfl);clear hbw;go_wp2;go_ret;exact⟨by rw[HV.out];rfl,HB1.out⟩
theorem long_any(h:Cps w a hp G){hx:List Int}(hh:SlV w 42 1 a.hv hx.length (hx.map (Value.int .u32)))(hl:hx.length≤16){m:Mn}{ev pv:Value}(hm:MnAt w ev pv m)(hok:m.ok):
  Calls Tryz.prog 188 #[.pointer (some ⟨a.cb,0,none⟩),.agg (m.cells ev pv)] w fun e w'=>e=.returned (.int .i64 (longE m.ext hx))∧Below w.heap.size w w':=by
 obtain⟨ao,ac,rfl⟩:=hm.e.form;obtain⟨ho,hc,hhv⟩:=hh.form;have hcap:=slv_len hm.e;unfold maxLen at hcap;have HCl:=Lh fun V (hV:Below w.heap.size w V) o=>by have:=hcells h hV o;rw[hhv] at this;exact this
 rw[hhv] at hh;have HHx:=Lh fun V (hV:Below w.heap.size w V)=>hh.below hV
 have HE:=Lh fun V (hV:Below w.heap.size w V)=>hm.e.below hV
 have HO:=Lh hok.e;have HB:Hid (Below w.heap.size w (w.alloc (.cells #[.int .u32 m.pages,.slice ao m.ext.length ac,pv,.bool m.con] 109))):=Lh (Ba _);unfold Mn.cells;clear h hm hok hhv hh;go_enter func188,ntmps188;go_wp2;go_loopw [6,10] (fun _ vi wr=>lpRel w m.ext (fun x=>decide (x.1<hx.length)&&decide (hx.getD x.1.toNat 0<x.2)) vi wr) (fun _ vi _=>m.ext.length - (intOf vi).toNat)
 case atStart=>exact⟨0,by omega,by go_num,fun k x hk=>absurd hk (Nat.not_lt_zero _),HB.out⟩
 case round=>
  obtain⟨i,hi,rfl,hno,hbw⟩:=hrel;have HNo:=Lh hno;have HB1:=Lh hbw;clear hno
  by_cases hin:i<m.ext.length
  ·obtain⟨gg,off,rfl,e0,e1⟩:=ext_cells (HE.out wr hbw) (Zg hin);have HX:Hid (m.ext[i]? =some m.ext[i]):=Lh (Zg hin);have hbd:=HO.out _ (List.getElem_mem hin);generalize m.ext[i]=x at*;obtain⟨b0,b1,b2,b3⟩:=hbd;have d0:=fun o=>(HCl.out wr HB1.out o).1
   have d1:=fun o=>(HCl.out wr HB1.out o).2.1
   have HAl:Hid (∀o,Below w.heap.size w (wr.alloc o)):=Lh fun o=>HB1.out.alloc HB1.out.size _
   clear hbw
   by_cases hx1:x.1<(hx.length:Int)
   ·obtain⟨j,hj⟩:=Int.eq_ofNat_of_zero_le b0;have hjl:j<hx.length:=by omega
    obtain⟨hg,hoff,rfl,_⟩:=u32_cell (HHx.out wr HB1.out) (Zg hjl);have d2:∀o,(wr.alloc o).cell? ⟨hg,hoff+j,none⟩=some (.int .u32 hx[j]):=fun o=>by
     obtain⟨g',o',e,q⟩:=u32_cell (HHx.out _ (HAl.out o)) (Zg hjl);simp only[Option.some.injEq,Addr.mk.injEq,and_true] at e;obtain⟨rfl,rfl⟩:=e;exact q
    have HY:Hid (hx.getD x.1.toNat 0=hx[j]):=Lh (by rw[hj,Int.toNat_natCast,List.getD_eq_getElem?_getD,Zg hjl];rfl);have hjn:x.1.toNat=j:=by omega
    generalize hx[j]=y at*;have hd:decide (x.1<(hx.length:Int))=true:=decide_eq_true hx1
    by_cases hy:y<x.2
    ·have HV:Hid (longE m.ext hx=5):=Lh (by unfold longE extLong;rw[if_pos (any_at (f:=fun x=>decide (x.1<hx.length)&&decide (hx.getD x.1.toNat 0<x.2)) HX.out (by rw[HY.out,hd,decide_eq_true hy];rfl))]);have hd2:decide (x.2>y)=true:=decide_eq_true hy;clear hj;go_wp2;go_region
     all_goals
      go_wp2;go_ret;exact⟨by rw[HV.out];rfl,by first|exact HAl.out _|exact(HAl.out _).drew⟩
    ·have hd2:decide (x.2>y)=false:=decide_eq_false hy;have HXF:Hid ((decide (x.1<hx.length)&&decide (hx.getD x.1.toNat 0<x.2))=false):=Lh (by rw[HY.out,hd,decide_eq_false hy];rfl);clear hj;go_wp2;go_region
     all_goals
      go_wp2;refine⟨⟨i+1,by omega,by go_num,fun k y hk hy=> ?_,by first|exact HAl.out _|exact(HAl.out _).drew⟩,by simp[intOf];omega⟩;rcases Nat.lt_or_ge k i with q|q
      ·exact HNo.out k y q hy
      ·obtain rfl:k=i:=by omega
       rw[HX.out] at hy;cases hy;exact HXF.out
   ·have hd:decide (x.1<(hx.length:Int))=false:=decide_eq_false hx1;have HXF:Hid ((decide (x.1<hx.length)&&decide (hx.getD x.1.toNat 0<x.2))=false):=Lh (by rw[hd];rfl);go_wp2;go_region
    all_goals
     go_wp2;refine⟨⟨i+1,by omega,by go_num,fun k y hk hy=> ?_,by first|exact HAl.out _|exact(HAl.out _).drew⟩,by simp[intOf];omega⟩;rcases Nat.lt_or_ge k i with q|q
     ·exact HNo.out k y q hy
     ·obtain rfl:k=i:=by omega
      rw[HX.out] at hy;cases hy;exact HXF.out
  ·have HV:Hid (longE m.ext hx=0):=Lh (by unfold longE extLong;rw[any_no (f:=fun x=>decide (x.1<hx.length)&&decide (hx.getD x.1.toNat 0<x.2)) fun k x hk=>HNo.out k x (by omega)];rfl);clear hbw;go_wp2;go_ret;exact⟨by rw[HV.out];rfl,HB1.out⟩
end
end Ca
namespace Gp
def checkE(m:Mn):Int:=if mayM m=true then 0 else 2
end Gp
theorem man_cells{w:World}{b:Nat}{m:Mn}{ev pv:Value}(h:w.heap[b]? =some (.cells (m.cells ev pv) 109 (0,0))):w.cell? ⟨b,0,none⟩=some (.int .u32 m.pages)∧w.cell? ⟨b,1,none⟩=some ev∧w.cell? ⟨b,2,none⟩=some pv∧w.cell? ⟨b,3,none⟩=some (.bool m.con)∧∀i,w.frozen? ⟨b,i,none⟩=false:=by
 refine⟨?_, ?_, ?_, ?_,fun i=> ?_⟩
 ·unfold World.cell?;rw[h];rfl
 ·unfold World.cell?;rw[h];rfl
 ·unfold World.cell?;rw[h];rfl
 ·unfold World.cell?;rw[h];rfl
 ·unfold World.frozen?;rw[h];simp
namespace Dm
theorem may_eq(m:Mn){b1 b2 b3 b4:Bool}(h1:m.ext.any Gp.badX=b1)(h2:Gp.risesB (fun a b:Int×Int=>decide (a.1<b.1)) m.ext=b2)(h3:Gp.risesB (fun a b:Int=>decide (a<b)) m.ports=b3)(h4:decide ((0:Int)∈m.ports)=b4):Gp.checkE m=if(!b1&&b2&&b3&& !b4&&decide (m.ports.length≤16)&&decide (m.pages≤1024))=true then 0 else 2:=by
 unfold Gp.checkE Gp.mayM;rw[h1,h2,h3,h4]
theorem check{w:World}{m:Mn}{ev pv:Value}(h:MnAt w ev pv m):Calls Tryz.prog 131 #[.agg (m.cells ev pv)] w fun e w'=>e=.returned (.int .i64 (Gp.checkE m))∧Below w.heap.size w w':=by
 have hb:Below w.heap.size w (w.alloc (.cells (m.cells ev pv) 109)):=Ba _;have hblk:=heap_alloc_new w (.cells (m.cells ev pv) 109);obtain⟨pa,pc,hpv⟩:=h.p.form;have hlen:m.ports.length≤9223372036854775807:=by have:=slv_len h.p;unfold maxLen at this;omega
 have H1:=Lh (anyBad (h.e.below hb));have H2:=Lh fun V (hV:Below w.heap.size w V)=>risesX (h.e.below hV)
 have H3:=Lh fun V (hV:Below w.heap.size w V)=>rises16 (h.p.below hV)
 have H4:=Lh fun V (hV:Below w.heap.size w V)=>Ca.contains (h.p.below hV) 0
 rw[hpv] at H3 H4;obtain⟨b1,e1⟩:∃b,m.ext.any Gp.badX=b:=⟨_,rfl⟩;obtain⟨b2,e2⟩:∃b,Gp.risesB (fun a b:Int×Int=>decide (a.1<b.1)) m.ext=b:=⟨_,rfl⟩;obtain⟨b3,e3⟩:∃b,Gp.risesB (fun a b:Int=>decide (a<b)) m.ports=b:=⟨_,rfl⟩;obtain⟨b4,e4⟩:∃b,decide ((0:Int)∈m.ports)=b:=⟨_,rfl⟩;have HM:=Lh (may_eq m e1 e2 e3 e4);rw[e1] at H1;rw[e2] at H2;rw[e3] at H3;rw[e4] at H4;have HB:=Lh hb;have HBlk:=Lh hblk;unfold Mn.cells at*;rw[hpv] at HB HBlk H1⊢;have HC:=Lh fun V (hV:Below (w.alloc (.cells #[.int .u32 m.pages,ev,.slice pa m.ports.length pc,.bool m.con] 109)).heap.size (w.alloc (.cells #[.int .u32 m.pages,ev,.slice pa m.ports.length pc,.bool m.con] 109)) V)=>man_cells (m:=m) ((hV.block _ (lQ HBlk.out)).trans HBlk.out)
 clear e1 e2 e3 e4 hb hblk hpv h;obtain⟨n,hn⟩:∃n,m.ports.length=n:=⟨_,rfl⟩;obtain⟨p,hp⟩:∃p,m.pages=p:=⟨_,rfl⟩;rw[hn] at HM HB HBlk H1 H3 H4 HC hlen⊢;rw[hp] at HM HB HBlk H1 HC⊢;clear hn hp;go_enter func131,ntmps131;go_wp2_with fail;refine H1.out.mono ?_;rintro e w1 ⟨rfl,hb1⟩;have HB1:=Lh (bQ HB.out hb1);obtain⟨c0,c1,c2,c3,_⟩:=HC.out _ hb1;cases b1 with
 |true=>
  have HE:Hid (Gp.checkE m=2):=Lh (by rw[HM.out];rfl);clear hb1;go_wp2;go_ret;exact⟨by rw[HE.out];rfl,HB1.out⟩
 |false=>
  have Hb1:=Lh hb1;clear hb1;go_wp2_with fail;refine(H2.out _ HB1.out).mono ?_;rintro e w2 ⟨rfl,hb2⟩;have HB2:=Lh (bQ HB1.out hb2);obtain⟨c0,c1,c2,c3,_⟩:=HC.out _ (bQ Hb1.out hb2);have Hb2:=Lh (bQ Hb1.out hb2);clear hb2;cases b2 with
  |false=>
   have HE:Hid (Gp.checkE m=2):=Lh (by rw[HM.out];rfl);go_wp2;go_ret;exact⟨by rw[HE.out];rfl,HB2.out⟩
  |true=>
   go_wp2_with fail;refine(H3.out _ HB2.out).mono ?_;rintro e w3 ⟨rfl,hb3⟩;have HB3:=Lh (bQ HB2.out hb3);obtain⟨c0,c1,c2,c3,_⟩:=HC.out _ (bQ Hb2.out hb3);clear hb3;cases b3 with
   |false=>
    have HE:Hid (Gp.checkE m=2):=Lh (by rw[HM.out];rfl);go_wp2;go_ret;exact⟨by rw[HE.out];rfl,HB3.out⟩
   |true=>
    go_wp2_with fail;refine(H4.out _ HB3.out).mono ?_;rintro e w4 ⟨rfl,rfl⟩;cases b4 with
    |true=>
     have HE:Hid (Gp.checkE m=2):=Lh (by rw[HM.out];rfl);go_wp2;go_ret;exact⟨by rw[HE.out];rfl,HB3.out⟩
    |false=>
     by_cases q1:n≤16
     ·by_cases q2:p≤1024
      ·have HE:Hid (Gp.checkE m=0):=Lh (by rw[HM.out,decide_eq_true q1,decide_eq_true q2];rfl);go_wp2;go_ret;exact⟨by rw[HE.out];rfl,HB3.out⟩
      ·have HE:Hid (Gp.checkE m=2):=Lh (by rw[HM.out,decide_eq_true q1,decide_eq_false q2];rfl);go_wp2;go_ret;exact⟨by rw[HE.out];rfl,HB3.out⟩
     ·have HE:Hid (Gp.checkE m=2):=Lh (by rw[HM.out,decide_eq_false q1];simp);go_wp2;go_ret;exact⟨by rw[HE.out];rfl,HB3.out⟩
end Dm
def firstE(l:List Int):Int:=(l.find? fun x=>x != 0).getD 0
namespace Ca
section
variable {w:World} {a:CAt} {hp:Int} {G:Int→Option Gr}
def fullE(hp:Int)(G:Int→Option Gr)(m:Mn)(pg:Int):Int:=if hp - Gp.sum G<m.pages+pg then 4 else 0
theorem full_no{hp:Int}{G:Int→Option Gr}{m:Mn}{pg:Int}(h:hp - Gp.sum G<m.pages+pg):fullE hp G m pg=4:=by unfold fullE;rw[if_pos h]
theorem full_yes{hp:Int}{G:Int→Option Gr}{m:Mn}{pg:Int}(h:¬hp - Gp.sum G<m.pages+pg):fullE hp G m pg=0:=by unfold fullE;rw[if_neg h]
theorem full(h:Cps w a hp G)(h1:hp≤4096){m:Mn}{ev pv:Value}{pb:Nat}{pg:Int}(hpb:w.heap[pb]? =some (.cells #[.int .u32 pg] 42 (0,0)))(p0:0≤m.pages)(p1:m.pages≤1024)(g0:0≤pg)(g1:pg≤4096):
  Calls Tryz.prog 132 #[.pointer (some ⟨a.cb,0,none⟩),.agg (m.cells ev pv),.pointer (some ⟨pb,0,none⟩)] w fun e w'=>e=.returned (.int .i64 (fullE hp G m pg))∧Below w.heap.size w w':=by
 have hb:Below w.heap.size w (w.alloc (.cells (m.cells ev pv) 109)):=Ba _;have hblk:=heap_alloc_new w (.cells (m.cells ev pv) 109);obtain⟨c0,c1,c2,c3,_⟩:=man_cells hblk;have hpc:(w.alloc (.cells (m.cells ev pv) 109)).cell? ⟨pb,0,none⟩=some (.int .u32 pg):=by
  unfold World.cell?;rw[Below.heap_alloc _ _ _ (lQ hpb),hpb];rfl
 have HF:=Lh fun V (hV:Below (w.alloc (.cells (m.cells ev pv) 109)).heap.size (w.alloc (.cells (m.cells ev pv) 109)) V)=>free (h.below (bQ hb hV)) h1
 have HB:=Lh hb;unfold Gp.freeV at HF;unfold Mn.cells at*;have wr0:IntKind.u32.wrap (m.pages+pg)=m.pages+pg:=wrap32 (by omega) (by omega);clear hb hblk h
 by_cases q:hp - Gp.sum G<m.pages+pg
 ·have HE:=Lh (full_no q);have hd:decide (m.pages+pg>hp - Gp.sum G)=true:=decide_eq_true q;go_enter func132,ntmps132;go_wp2;go_region_held3 (fun w'=>w'.cell? ⟨w.heap.size,0,none⟩=some (.int .u32 m.pages)∧w'.cell? ⟨pb,0,none⟩=some (.int .u32 pg))
   (first|exact⟨c0,hpc⟩|exact⟨cQ hx1 c0,cQ hx1 hpc⟩)
   (first
    |(
      go_at_call 133;refine(HF.out _ (by first|exact Below.refl _ _|exact Br.drew)).mono ?_;rintro e x1 ⟨rfl,hx1⟩;have hb1:Below w.heap.size w x1:=by first|exact bQ HB.out hx1|exact bQ HB.out.drew hx1))
  all_goals
   go_wp2;go_ret;exact⟨by rw[HE.out];rfl,by first|exact hb1|exact hb1.drew⟩
 ·have HE:=Lh (full_yes q);have hd:decide (m.pages+pg>hp - Gp.sum G)=false:=decide_eq_false q;go_enter func132,ntmps132;go_wp2;go_region_held3 (fun w'=>w'.cell? ⟨w.heap.size,0,none⟩=some (.int .u32 m.pages)∧w'.cell? ⟨pb,0,none⟩=some (.int .u32 pg))
   (first|exact⟨c0,hpc⟩|exact⟨cQ hx1 c0,cQ hx1 hpc⟩)
   (first
    |(
      go_at_call 133;refine(HF.out _ (by first|exact Below.refl _ _|exact Br.drew)).mono ?_;rintro e x1 ⟨rfl,hx1⟩;have hb1:Below w.heap.size w x1:=by first|exact bQ HB.out hx1|exact bQ HB.out.drew hx1))
  all_goals
   go_wp2;go_ret;exact⟨by rw[HE.out];rfl,by first|exact hb1|exact hb1.drew⟩
theorem each{m:Mn}{ev pv:Value}{lb pb:Nat}(r0 r1 r2 r3:Int)
  (hf:w.heap[lb]? =some (.cells #[.func (.func 187) #[] #[],.func (.func 188) #[] #[],.func (.func 189) #[] #[],.func (.func 132) #[] #[.pointer (some ⟨pb,0,none⟩)]] 342 (0,0)))
  (h0:∀V,Below w.heap.size w V→Calls Tryz.prog 187 #[.pointer (some ⟨a.cb,0,none⟩),.agg (m.cells ev pv)] V fun e w'=>e=.returned (.int .i64 r0)∧Below V.heap.size V w')
  (h1:∀V,Below w.heap.size w V→Calls Tryz.prog 188 #[.pointer (some ⟨a.cb,0,none⟩),.agg (m.cells ev pv)] V fun e w'=>e=.returned (.int .i64 r1)∧Below V.heap.size V w')
  (h2:∀V,Below w.heap.size w V→Calls Tryz.prog 189 #[.pointer (some ⟨a.cb,0,none⟩),.agg (m.cells ev pv)] V fun e w'=>e=.returned (.int .i64 r2)∧Below V.heap.size V w')
  (h3:∀V,Below w.heap.size w V→Calls Tryz.prog 132 #[.pointer (some ⟨a.cb,0,none⟩),.agg (m.cells ev pv),.pointer (some ⟨pb,0,none⟩)] V fun e w'=>e=.returned (.int .i64 r3)∧Below V.heap.size V w'):
  Calls Tryz.prog 186 #[.pointer (some ⟨a.cb,0,none⟩),.agg (m.cells ev pv),.slice (some ⟨lb,0,none⟩) 4 4] w fun e w'=>e=.returned (.int .i64 (firstE [r0,r1,r2,r3]))∧Below w.heap.size w w':=by
 have hb:Below w.heap.size w (w.alloc (.cells (m.cells ev pv) 109)):=Ba _;have hblk:=heap_alloc_new w (.cells (m.cells ev pv) 109);have HC:=Lh fun V (hV:Below (w.alloc (.cells (m.cells ev pv) 109)).heap.size (w.alloc (.cells (m.cells ev pv) 109)) V)=>man_cells (m:=m) ((hV.block _ (lQ hblk)).trans hblk)
 have HF:Hid (∀V,Below w.heap.size w V→V.cell? ⟨lb,0,none⟩=some (.func (.func 187) #[] #[])∧V.cell? ⟨lb,1,none⟩=some (.func (.func 188) #[] #[])∧V.cell? ⟨lb,2,none⟩=some (.func (.func 189) #[] #[])∧V.cell? ⟨lb,3,none⟩=some (.func (.func 132) #[] #[.pointer (some ⟨pb,0,none⟩)])):=Lh fun V hV=>by
  have hk:=(hV.block _ (lQ hf)).trans hf;refine⟨?_, ?_, ?_, ?_⟩<;>(unfold World.cell?;rw[hk];rfl)
 have H0:=Lh h0;have H1:=Lh h1;have H2:=Lh h2;have H3:=Lh h3;have HB0:=Lh hb;have HG0:=Lh (Below.refl (w.alloc (.cells (m.cells ev pv) 109)).heap.size (w.alloc (.cells (m.cells ev pv) 109)));unfold Mn.cells at*;obtain⟨c0,c1,c2,c3,_⟩:=HC.out _ HG0.out;obtain⟨f0,f1,f2,f3⟩:=HF.out _ HB0.out;clear h0 h1 h2 h3 hb hblk hf;go_enter func186,ntmps186;go_wp2;refine wp_loop_rounds 5 ?_
 -- round 0
 rw[rounds_succ];go_wp2_with fail;refine(H0.out _ HB0.out).mono ?_;rintro e w1 ⟨rfl,hb1⟩;have HB1:=Lh (bQ HB0.out hb1);have HG1:=Lh (bQ HG0.out hb1);clear hb1;try clear c0
 try clear c1
 try clear c2
 try clear c3
 try clear f0
 try clear f1
 try clear f2
 try clear f3
 obtain⟨c0,c1,c2,c3,_⟩:=HC.out _ HG1.out;obtain⟨f0,f1,f2,f3⟩:=HF.out _ HB1.out
 by_cases q0:r0=0
 case neg=>
  have hne:(r0 != 0)=true:=bne_iff_ne.2 q0;have HV:Hid (firstE [r0,r1,r2,r3]=r0):=Lh (by unfold firstE;simp only[List.find?_cons,hne];rfl);go_wp2;go_ret;exact⟨by rw[HV.out];rfl,HB1.out⟩
 have e0:(r0 != 0)=false:=by rw[q0];rfl
 clear q0;go_wp2
 -- round 1
 rw[rounds_succ];go_wp2_with fail;refine(H1.out _ HB1.out).mono ?_;rintro e w2 ⟨rfl,hb2⟩;have HB2:=Lh (bQ HB1.out hb2);have HG2:=Lh (bQ HG1.out hb2);clear hb2;try clear c0
 try clear c1
 try clear c2
 try clear c3
 try clear f0
 try clear f1
 try clear f2
 try clear f3
 obtain⟨c0,c1,c2,c3,_⟩:=HC.out _ HG2.out;obtain⟨f0,f1,f2,f3⟩:=HF.out _ HB2.out
 by_cases q1:r1=0
 case neg=>
  have hne:(r1 != 0)=true:=bne_iff_ne.2 q1;have HV:Hid (firstE [r0,r1,r2,r3]=r1):=Lh (by unfold firstE;simp only[List.find?_cons,e0,hne];rfl);go_wp2;go_ret;exact⟨by rw[HV.out];rfl,HB2.out⟩
 have e1:(r1 != 0)=false:=by rw[q1];rfl
 clear q1;go_wp2
 -- round 2
 rw[rounds_succ];go_wp2_with fail;refine(H2.out _ HB2.out).mono ?_;rintro e w3 ⟨rfl,hb3⟩;have HB3:=Lh (bQ HB2.out hb3);have HG3:=Lh (bQ HG2.out hb3);clear hb3;try clear c0
 try clear c1
 try clear c2
 try clear c3
 try clear f0
 try clear f1
 try clear f2
 try clear f3
 obtain⟨c0,c1,c2,c3,_⟩:=HC.out _ HG3.out;obtain⟨f0,f1,f2,f3⟩:=HF.out _ HB3.out
 by_cases q2:r2=0
 case neg=>
  have hne:(r2 != 0)=true:=bne_iff_ne.2 q2;have HV:Hid (firstE [r0,r1,r2,r3]=r2):=Lh (by unfold firstE;simp only[List.find?_cons,e0,e1,hne];rfl);go_wp2;go_ret;exact⟨by rw[HV.out];rfl,HB3.out⟩
 have e2:(r2 != 0)=false:=by rw[q2];rfl
 clear q2;go_wp2
 -- round 3
 rw[rounds_succ];go_wp2_with fail;refine(H3.out _ HB3.out).mono ?_;rintro e w4 ⟨rfl,hb4⟩;have HB4:=Lh (bQ HB3.out hb4);have HG4:=Lh (bQ HG3.out hb4);clear hb4;try clear c0
 try clear c1
 try clear c2
 try clear c3
 try clear f0
 try clear f1
 try clear f2
 try clear f3
 obtain⟨c0,c1,c2,c3,_⟩:=HC.out _ HG4.out;obtain⟨f0,f1,f2,f3⟩:=HF.out _ HB4.out
 by_cases q3:r3=0
 case neg=>
  have hne:(r3 != 0)=true:=bne_iff_ne.2 q3;have HV:Hid (firstE [r0,r1,r2,r3]=r3):=Lh (by unfold firstE;simp only[List.find?_cons,e0,e1,e2,hne];rfl);go_wp2;go_ret;exact⟨by rw[HV.out];rfl,HB4.out⟩
 have e3:(r3 != 0)=false:=by rw[q3];rfl
 clear q3;have HV:Hid (firstE [r0,r1,r2,r3]=0):=Lh (by unfold firstE;simp only[List.find?_cons,List.find?_nil,e0,e1,e2,e3];rfl);go_wp2;rw[rounds_succ];go_wp2;go_ret;exact⟨by rw[HV.out];rfl,HB4.out⟩
end
end Ca
section
variable {P:Program} {Q:Exit→Act→World→Prop} {md:Region.Mode} {S:World→Prop}
theorem U2{l:List Oper}{o o':Oper}{fuel:Nat}{listed:Array Bool}{a:Act}{w:World}(i j:Nat)
  (h:∀K':Act→World→Prop,Shut (∀a w,S w→(S w→wpAnyH P md l.toArray Q S fuel (listed.setIfInBounds i true) a w)→K' a w)→if Region.wanted o (yielded l.toArray a.tmps)=true then Oper.wp P o a w K' Q else K' (a.put o.dst undef) w)
  (h':∀K':Act→World→Prop,Shut (∀a w,S w→(S w→wpAnyH P md l.toArray Q S fuel (listed.setIfInBounds j true) a w)→K' a w)→if Region.wanted o' (yielded l.toArray a.tmps)=true then Oper.wp P o' a w K' Q else K' (a.put o'.dst undef) w)
  (hr:Region.ready md l.toArray listed=[i,j]:=by kernel_rfl) (ho:l[i]? =some o:=by rfl) (ho':l[j]? =some o':=by rfl):
  wpAnyH P md l.toArray Q S (fuel+1) listed a w:=
 wpAnyH_ready hr (by simp) (AllReadyH.cons (by rw[List.getElem?_toArray];exact ho) h (AllReadyH.cons (by rw[List.getElem?_toArray];exact ho') h' AllReadyH.nil))
end
namespace Gp
def busyP(g:Gr)(m:Mn):Bool:=m.ports.any fun p=>decide (p∈g.m.ports)
def busyX(g:Gr)(m:Mn):Bool:=m.ext.any fun x=>(blocksOf g.m.ext x.1).isSome
def busyO(g:Option Gr)(m:Mn):Bool:=match g with|none=>false|some g=>busyP g m||busyX g m
def busyB(G:Int→Option Gr)(m:Mn):Bool:=([1,2,3,4,5,6,7,8]:List Int).any fun k=>busyO (G k) m
theorem busyB_yes{G:Int→Option Gr}{m:Mn}{n:Int}(n1:1≤n)(n8:n≤8)(h:busyO (G n) m=true):busyB G m=true:=by
 have hn:n=1∨n=2∨n=3∨n=4∨n=5∨n=6∨n=7∨n=8:=by omega
 refine List.any_eq_true.2 ⟨n, ?_,h⟩;rcases hn with rfl|rfl|rfl|rfl|rfl|rfl|rfl|rfl<;>simp
theorem busyB_no{G:Int→Option Gr}{m:Mn}(h:∀n,busyO (G n) m=false):busyB G m=false:=by
 unfold busyB;rw[List.any_eq_false];intro n _;rw[h n]
 simp
end Gp
namespace Ca
def busyE(G:Int→Option Gr)(m:Mn):Int:=if Gp.busyB G m=true then 190 else 0
section
variable {w:World} {a:CAt} {hp:Int} {G:Int→Option Gr}
theorem has1{gc gb:Nat}{g:Gr}{ev pv:Value}(hc:w.heap[gc]? =some (.cells #[.pointer (some ⟨gb,0,none⟩)] 282 (0,0)))(hg:w.heap[gb]? =some (.cells (grC g ev pv) 293 (0,0)))(hm:MnAt w ev pv g.m)(p:Int):
  Calls Tryz.prog 249 #[.int .u16 p,.pointer (some ⟨gc,0,none⟩)] w fun e w'=>e=.returned (.bool (decide (p∈g.m.ports)))∧w=w':=by
 have c0:w.cell? ⟨gc,0,none⟩=some (.pointer (some ⟨gb,0,none⟩)):=by unfold World.cell?;rw[hc];rfl
 obtain⟨g0,g1,g2,g3,g4,g5,_⟩:=gr_cells hg;have HC:=Lh (contains hm.p p);clear hc hg hm;go_enter func249,ntmps249;go_wp2_with fail;refine HC.out.mono ?_;rintro e w1 ⟨rfl,rfl⟩;go_wp2;go_ret;exact⟨rfl,rfl⟩
def apRel(w:World)(l:List Int)(q:List Int)(vi:Value)(wr:World):Prop:=∃i:Nat,i≤l.length∧vi=.int .i64 i∧(∀(k:Nat) (x:Int),k<i→l[k]? =some x→x∉q)∧wr=w
theorem anyPort{gc gb:Nat}{g:Gr}{ev pv qv:Value}{l:List Int}(h:SlV w 22 1 qv l.length (l.map (Value.int .u16)))(hc:w.heap[gc]? =some (.cells #[.pointer (some ⟨gb,0,none⟩)] 282 (0,0)))(hg:w.heap[gb]? =some (.cells (grC g ev pv) 293 (0,0)))(hm:MnAt w ev pv g.m):
  Calls Tryz.prog 248 #[qv,.func (.func 249) #[] #[.pointer (some ⟨gc,0,none⟩)]] w fun e w'=>e=.returned (.bool (l.any fun p=>decide (p∈g.m.ports)))∧w=w':=by
 have hix:Calls Tryz.prog 304 #[qv,.func (.func 249) #[] #[.pointer (some ⟨gc,0,none⟩)]] w fun e w'=>(∃i:Int,e=.returned (.int .i64 i)∧ -1≤i∧i≤9223372036854775807∧decide (i≥0)=l.any fun p=>decide (p∈g.m.ports))∧w=w':=by
  have hcap:=slv_len h;unfold maxLen at hcap;obtain⟨ao,ac,rfl⟩:=h.form;have HS:=Lh h;have HQ:=Lh fun p=>has1 hc hg hm p
  clear h hc hg hm;go_enter func304,ntmps304;go_wp2;go_loopw [5,8] (fun _ vi wr=>apRel w l g.m.ports vi wr) (fun _ vi _=>l.length - (intOf vi).toNat)
  case atStart=>exact⟨0,by omega,by go_num,fun k _ hk=>absurd hk (Nat.not_lt_zero _),rfl⟩
  case round=>
   obtain⟨i,hi,rfl,hno,rfl⟩:=hrel;have HNo:=Lh hno;clear hno
   by_cases hin:i<l.length
   ·obtain⟨ag,off,rfl,hc0⟩:=u16_cell HS.out (Zg hin);obtain⟨x,hx⟩:∃x,l[i]=x:=⟨_,rfl⟩;rw[hx] at hc0;have HX:Hid (l[i]? =some x):=Lh (by rw[Zg hin,hx]);clear hx;have HQx:=Lh (HQ.out x)
    by_cases hb:x∈g.m.ports
    ·have HM:Hid (decide ((i:Int)≥0)=l.any fun p=>decide (p∈g.m.ports)):=Lh (by
      rw[decide_eq_true (by omega),List.any_eq_true.2];exact⟨x,List.mem_of_getElem? HX.out,by simpa using hb⟩)
     rw[decide_eq_true hb] at HQx;clear hb;go_wp2_with fail;refine HQx.out.mono ?_;rintro e w2 ⟨rfl,rfl⟩;go_wp2;go_ret;exact⟨⟨i,rfl,by omega,by omega,HM.out⟩,rfl⟩
    ·have HBx:=Lh hb;rw[decide_eq_false hb] at HQx;clear hb;go_wp2_with fail;refine HQx.out.mono ?_;rintro e w2 ⟨rfl,rfl⟩;go_wp2;refine⟨⟨i+1,by omega,by go_num,fun k y hk hy=> ?_,rfl⟩,by simp[intOf];omega⟩;rcases Nat.lt_or_ge k i with q|q
     ·exact HNo.out k y q hy
     ·obtain rfl:k=i:=by omega
      rw[HX.out] at hy;cases hy;exact HBx.out
   ·have HM:Hid (decide ((-1:Int)≥0)=l.any fun p=>decide (p∈g.m.ports)):=Lh (by
     rw[decide_eq_false (by omega)]
     symm
     rw[List.any_eq_false];intro x hx;obtain⟨k,hk⟩:=List.getElem?_of_mem hx
     simpa using HNo.out k x (by have:=(List.getElem?_eq_some_iff.1 hk).1;omega) hk)
    go_wp2;go_ret;exact⟨⟨-1,rfl,by omega,by omega,HM.out⟩,rfl⟩
 have H:=Lh hix;clear hix h hc hg hm;go_enter func248,ntmps248;go_wp2_with fail;refine H.out.mono ?_;rintro e w1 ⟨⟨i,rfl,i0,i1,hd⟩,rfl⟩;have HD:=Lh hd;clear hd;go_wp2;go_ret;exact⟨by rw[HD.out];rfl,rfl⟩
def buRel(w:World)(a:CAt)(G:Int→Option Gr)(m:Mn)(ev pv:Value)(D:DataW Unit)(n r:Nat)(wr:World):Prop:=
 ∃left cnt,wr.ranges Tryz.prog 3 ptrElem a.mb r n D left cnt∧Below w.heap.size w wr∧w.heap.size<r∧wr.heap[w.heap.size]? =some (.cells (m.cells ev pv) 109 (0,0))∧∀x,left (.int .i64 x)=false→Gp.busyO (G x) m=false
def bxRel(w V:World)(g:Gr)(m:Mn)(vi:Value)(wr:World):Prop:=∃i:Nat,i≤m.ext.length∧vi=.int .i64 i∧(∀(k:Nat) (x:Int×Int),k<i→m.ext[k]? =some x→Gp.blocksOf g.m.ext x.1=none)∧Below V.heap.size V wr
theorem cellX{F:Nat→Prop}{w w':World}(hm:Mod F w w'){b i:Nat}{v:Value}(h:w.cell? ⟨b,i,none⟩=some v)(hF:¬F b):w'.cell? ⟨b,i,none⟩=some v:=by
 have hl:b<w.heap.size:=by
  unfold World.cell? at h;cases hg:w.heap[b]? with
  |none=>rw[hg] at h;cases h
  |some _=>exact lQ hg
 exact(World.cell?_of_block (w:=w) (hm.block _ hl hF)).trans h
theorem ranges_below{V W:World}{b r n:Nat}{D:DataW Unit}{left:Lit→Bool}{cnt:Nat}(h:V.ranges Tryz.prog 3 ptrElem b r n D left cnt)(hb:Below V.heap.size V W):W.ranges Tryz.prog 3 ptrElem b r n D left cnt:=h.kept (row:=none) ⟨hb.os,hb.tape,hb.output,hb.size,fun k hk _=>hb.block k hk⟩ (by simp) (by simp)
theorem busy(h:Cps w a hp G){m:Mn}{ev pv:Value}(hm:MnAt w ev pv m):Calls Tryz.prog 189 #[.pointer (some ⟨a.cb,0,none⟩),.agg (m.cells ev pv)] w fun e w'=>e=.returned (.int .i64 (busyE G m))∧Below w.heap.size w w':=by
 obtain⟨eo,ec,rfl⟩:=hm.e.form;obtain⟨po,pc,rfl⟩:=hm.p.form;have HY:Hid (∀n,1≤n→n≤8→Gp.busyO (G n) m=true→busyE G m=190):=Lh fun n n1 n8 hn=>by unfold busyE;rw[if_pos (Gp.busyB_yes n1 n8 hn)]
 have HN:Hid ((∀n,Gp.busyO (G n) m=false)→busyE G m=0):=Lh fun hn=>by unfold busyE;rw[if_neg (by rw[Gp.busyB_no hn];simp)]
 have K:=Maps.int_keyed (P:=Tryz.prog) Tryz.underlying3;have hb:Below w.heap.size w (w.alloc (.cells (m.cells (.slice eo m.ext.length ec) (.slice po m.ports.length pc)) 109)):=Ba _;have h1:=h.below hb;obtain⟨D,n,ho,hv,hs⟩:=h1.map;have Hv:=Lh hv;have Ho:=Lh ho;have HB:=Lh hb;have HM:=Lh (heap_alloc_new w (.cells (m.cells (.slice eo m.ext.length ec) (.slice po m.ports.length pc)) 109));have HMn:=Lh fun V (hV:Below w.heap.size w V)=>hm.below hV
 have HC:=Lh fun V (hV:Below w.heap.size w V)=>h.below hV
 have hcap:=slv_len hm.e;unfold maxLen at hcap;obtain⟨c0,c1,c2⟩:=h1.cells;unfold Mn.cells at*;clear h h1 hv hs ho hb hm;go_enter func189,ntmps189;go_wp2_with (at_range;refine wpList_range_own _ rfl _ 283 rfl 3 282 K Tryz.underlying283 ptrElem a.mb n D rfl Ho.out ?_;intro w2 hrg hg2 hz2);obtain⟨r,hr⟩:∃r,(w.alloc (.cells #[.int .u32 m.pages,.slice eo m.ext.length ec,.slice po m.ports.length pc,.bool m.con] 109)).heap.size=r:=⟨_,rfl⟩;have hr2:w.heap.size+1=r:=by simpa using hr
 have hk2:=(hg2.block w.heap.size (lQ HM.out) (by simp)).trans HM.out;rw[hr] at hrg⊢;have H2:Hid (buRel w a G m (.slice eo m.ext.length ec) (.slice po m.ports.length pc) D n r w2):=Lh ⟨_,_,hrg,HB.out.grown hg2 HB.out.size (fun k e=>by cases e),by omega,hk2,fun x hx=>by
  have hx:Maps.has D (.int .i64 x)=false:=hx;cases hg:G x with
  |none=>rfl
  |some g=>
   have:Maps.has D (.int .i64 x)=true:=Maps.has_true_of_atKey (y:=.lit (.int .i64 (a.gb x))) fun zd=>by rw[Hv.out,if_pos (by rw[hg];rfl)]
   rw[hx] at this;cases this⟩
 clear hr hr2 hrg hg2 hz2 hk2;go_frame;go_loopw [6,8,9,10] (fun _ _ _ _ wr=>buRel w a G m (.slice eo m.ext.length ec) (.slice po m.ports.length pc) D n r wr) (fun _ _ _ _ wr=>wr.rangeLeft a.mb r)
 case atStart=>exact H2.out
 case round=>
  clear H2 c0 c1 c2;obtain⟨left,cnt,hrg,hbw,hr3,hmk,hno⟩:=hrel;have Hrg:=Lh hrg;have Hbw:=Lh hbw;have Hr3:=Lh hr3;have Hmk:=Lh hmk;have Hno:=Lh hno;clear hrg hbw hr3 hmk hno;go_wp2_with (at_next;refine wpList_next_ranges _ rfl _ rfl 3 K ptrElem (Value.int .i64) id (fun key kl hk=>by obtain⟨x,hx,_⟩:=Maps.keyOf_int_inv Tryz.underlying3 hk;exact⟨x,hx⟩) (fun v _ _=>⟨v,rfl⟩) a.mb r n D left cnt rfl Hrg.out ?_ ?_)
  ·intro hc0 hl0;have HE:=Lh (HN.out fun x=>Hno.out x (hl0 _));go_wp2;go_ret;exact⟨by rw[HE.out];rfl,Hbw.out⟩
  ·intro x c kl y1 y2 w3 cnt2 hkey hlk hR hat3 hrg3 hlt hg3 hs3 hen;obtain⟨x',ex,rfl,hwx⟩:=Maps.keyOf_int_inv Tryz.underlying3 hkey;obtain rfl:x=x':=by simpa using ex
   obtain⟨⟨g,hg⟩,rfl⟩:=entry Hv.out hat3;obtain rfl:c=.pointer (some ⟨a.gb x,0,none⟩):=by
    rcases ptrElem_inv hR with⟨_,hb⟩|⟨b,e,hb⟩
    ·omega
    ·have:b=a.gb x:=by omega
     subst this;exact e
   have hw3b:Below w.heap.size w w3:=Hbw.out.grown hg3 Hbw.out.size (fun k e=>by cases e;have:=Hr3.out;omega);have hmk3:w3.heap[w.heap.size]? =some (.cells (m.cells (.slice eo m.ext.length ec) (.slice po m.ports.length pc)) 109 (0,0)):=(hg3.block _ (lQ Hmk.out) (by have:=Hr3.out;simp;omega)).trans Hmk.out;have hal:=hw3b.alloc hw3b.size (.cells #[.pointer (some ⟨a.gb x,0,none⟩)] 282);have hmk4:(w3.alloc (.cells #[.pointer (some ⟨a.gb x,0,none⟩)] 282)).heap[w.heap.size]? =some (.cells (m.cells (.slice eo m.ext.length ec) (.slice po m.ports.length pc)) 109 (0,0)):=(Below.heap_alloc _ _ _ (lQ hmk3)).trans hmk3;have hbx:=heap_alloc_new w3 (.cells #[.pointer (some ⟨a.gb x,0,none⟩)] 282);have hrg4:=hrg3.alloc (.cells #[.pointer (some ⟨a.gb x,0,none⟩)] 282);have hms:(w3.alloc (.cells #[.pointer (some ⟨a.gb x,0,none⟩)] 282)).rangeLeft a.mb r<wr.rangeLeft a.mb r:=by rw[hrg4.left_eq,Hrg.out.left_eq];exact hlt
   have hdm:=(HC.out _ hal).dom x (by rw[hg];rfl);have hgr:=(HC.out _ hal).grant x g hg;have hok:=(HC.out _ hal).ok x g hg;have HAp:=Lh (anyPort (HMn.out _ hal).p hbx hgr.1 hgr.2);have HW4:=Lh (And.intro hrg4 (And.intro hal (And.intro hmk4 (And.intro hbx (And.intro hms hgr)))));have HDm:=Lh hdm;have HG:=Lh hg;have HR4:Hid (w.heap.size<r):=Hr3;have HNo2:Hid (Gp.busyO (some g) m=false→∀y,(left (.int .i64 y)&& !(Lit.int .i64 y).sameKey (.int .i64 x))=false→Gp.busyO (G y) m=false):=Lh fun hbn y hy=>by
    by_cases e:y=x
    ·rw[e,hg];exact hbn
    ·have:(Lit.int .i64 y).sameKey (.int .i64 x)=false:=by simp[Lit.sameKey];omega
     rw[this] at hy;exact Hno.out y (by simpa using hy)
   have HPB:Hid (Gp.busyP g m=m.ports.any fun p=>decide (p∈g.m.ports)):=Lh rfl;obtain⟨m0,m1,m2,m3,mf⟩:=man_cells hmk4;clear ex hwx hg hkey hlk hR hat3 hrg3 hlt hg3 hs3 hw3b hmk3 hal hmk4 hbx hrg4 hms hdm hgr;obtain⟨bp,hbp⟩:∃bp,(m.ports.any fun p=>decide (p∈g.m.ports))=bp:=⟨_,rfl⟩;rw[hbp] at HAp HPB;clear hbp;cases bp with
   |true=>
    have HE:=Lh (HY.out x HDm.out.1 HDm.out.2 (by rw[HG.out];show(Gp.busyP g m||Gp.busyX g m)=true;rw[HPB.out];rfl));go_wp2_with fail;refine HAp.out.mono ?_;rintro e w5 ⟨rfl,rfl⟩;go_wp2;go_ret;exact⟨by rw[HE.out];rfl,HW4.out.2.1⟩
   |false=>
    go_wp2_with fail;refine HAp.out.mono ?_;rintro e w5 ⟨rfl,rfl⟩;go_wp2;obtain⟨gc,hgc⟩:∃gc,w3.heap.size=gc:=⟨_,rfl⟩;rw[hgc] at HW4⊢;generalize w3.alloc (.cells #[.pointer (some ⟨a.gb x,0,none⟩)] 282)=w4 at*;clear hgc m0 m1 m2 m3 mf HAp;have HX0:=Lh (show bxRel w w4 g m (.int .i64 0) w4 from⟨0,Nat.zero_le _,rfl,fun k _ hk=>absurd hk (Nat.not_lt_zero _),Below.refl _ _⟩);go_loopw [8,9,10,27] (fun _ _ _ vi wr=>bxRel w w4 g m vi wr) (fun _ _ _ vi _=>m.ext.length - (intOf vi).toNat)
    case atStart=>exact HX0.out
    case round=>
     clear HX0;obtain⟨i,hi,rfl,hno,hbi⟩:=hrel;have Hni:=Lh hno;have Hbi:=Lh hbi;clear hno hbi
     by_cases hin:i<m.ext.length
     ·have hsl:=(HMn.out _ (bQ HW4.out.2.1 Hbi.out)).e;obtain⟨ag,off,heo,hc0,hc1⟩:=ext_cells hsl (Zg hin);obtain⟨z,hz⟩:∃z,m.ext[i]=z:=⟨_,rfl⟩;rw[hz] at hc0 hc1;have HZ:Hid (m.ext[i]? =some z):=Lh (by rw[Zg hin,hz]);have hi1:(i:Int)<m.ext.length:=by omega
      have hal:=(Below.refl wr.heap.size wr).alloc (Nat.le_refl _) (.cells #[.int .u32 z.1,.int .u32 z.2] 290);have hbk:=heap_alloc_new wr (.cells #[.int .u32 z.1,.int .u32 z.2] 290);have hB4:=bQ Hbi.out hal;have hgk:=(hB4.block _ (lQ HW4.out.2.2.2.2.2.1)).trans HW4.out.2.2.2.2.2.1;have hpk:=(hB4.block _ (lQ HW4.out.2.2.2.1)).trans HW4.out.2.2.2.1;obtain⟨g0,g1,g2,g3,_⟩:=gr_cells hgk;have hg6:(wr.alloc (.cells #[.int .u32 z.1,.int .u32 z.2] 290)).cell? ⟨gc,0,none⟩=some (.pointer (some ⟨a.gb x,0,none⟩)):=by unfold World.cell?;rw[hpk];rfl
      obtain⟨z0,z1,zf⟩:=two_of hbk;have HMg:=Lh fun V (hV:Below (wr.alloc (.cells #[.int .u32 z.1,.int .u32 z.2] 290)).heap.size (wr.alloc (.cells #[.int .u32 z.1,.int .u32 z.2] 290)) V)=>(HW4.out.2.2.2.2.2.2.below (bQ hB4 hV))
      have HB4:=Lh hB4;have HAl:=Lh hal;have HL6:Hid (gc<w4.heap.size∧a.gb x<w4.heap.size∧w4.heap.size≤wr.heap.size∧wr.heap.size<(wr.alloc (.cells #[.int .u32 z.1,.int .u32 z.2] 290)).heap.size):=Lh ⟨lQ HW4.out.2.2.2.1,lQ HW4.out.2.2.2.2.2.1,Hbi.out.size,lQ hbk⟩;subst heo;clear hsl hz hal hbk hB4 hgk hpk;go_wp2;generalize wr.alloc (.cells #[.int .u32 z.1,.int .u32 z.2] 290)=w6 at*;refine B (fun V=>V.cell? ⟨gc,0,none⟩=some (.pointer (some ⟨a.gb x,0,none⟩))∧V.cell? ⟨a.gb x,0,none⟩=some (.int .u32 g.m.pages)∧V.cell? ⟨a.gb x,1,none⟩=some (a.ev x)∧V.cell? ⟨a.gb x,2,none⟩=some (a.pv x)∧V.cell? ⟨a.gb x,3,none⟩=some (.bool g.m.con)∧V.cell? ⟨wr.heap.size,0,none⟩=some (.int .u32 z.1)) ⟨hg6,g0,g1,g2,g3,z0⟩ fun wd hwd hS=> ?_
      have HBd:Hid (Below w6.heap.size w6 wd):=Lh (by rw[hwd];exact Br.drew);clear hwd g0 g1 g2 g3 hg6 z0 z1 zf hc0 hc1;refine T 0 hS ?_;refine T 1 hS ?_;refine T 2 hS ?_;refine T 3 hS ?_;refine T 4 hS ?_;refine T 5 hS ?_;refine U2 6 10 (fun K hK=> ?_) (fun K hK=> ?_)
      ·go_simp;go_at_call 250;refine(extent (HMg.out wd HBd.out) z.1).mono ?_;rintro e w7 ⟨⟨ei,en,rfl,_⟩,hb7⟩;have hS7:=And.intro (cQ hb7 hS.1) (And.intro (cQ hb7 hS.2.1) (And.intro (cQ hb7 hS.2.2.1) (And.intro (cQ hb7 hS.2.2.2.1) (And.intro (cQ hb7 hS.2.2.2.2.1) (cQ hb7 hS.2.2.2.2.2)))));have HB7:=Lh (bQ HBd.out hb7);clear hb7;refine V hK hS7 ?_;clear hK K;refine T 7 hS7 ?_;refine T 8 hS7 ?_;refine T 9 hS7 ?_;refine U 10 fun K hK=> ?_
       go_simp;have hb8:Below w7.heap.size w7 (w7.alloc (.cells #[.int .u32 0,.int .u32 0] 290)):=Ba _;have hk8:=heap_alloc_new w7 (.cells #[.int .u32 0,.int .u32 0] 290);have hS8:=And.intro (cQ hb8 hS7.1) (And.intro (cQ hb8 hS7.2.1) (And.intro (cQ hb8 hS7.2.2.1) (And.intro (cQ hb8 hS7.2.2.2.1) (And.intro (cQ hb8 hS7.2.2.2.2.1) (cQ hb8 hS7.2.2.2.2.2)))));have HB8:=Lh (bQ HB7.out hb8)
       change K _ (w7.alloc (.cells #[.int .u32 0,.int .u32 0] 290))
       have hz8:w6.heap.size≤w7.heap.size:=HB7.out.size;generalize hw8:w7.alloc (.cells #[.int .u32 0,.int .u32 0] 290)=w8 at*;clear hb8 hw8;refine V hK hS8 ?_;clear hK K;obtain⟨r0,r1,rf⟩:=two_of hk8;have rf0:=rf 0;have rf1:=rf 1;refine U 11 fun K hK=> ?_
       go_simp;have hm9:=set2_mod w8 w7.heap.size (.int .u32 ei) (.int .u32 en);have hl:=HL6.out;have hS9:=And.intro (cellX hm9 hS8.1 (by omega)) (And.intro (cellX hm9 hS8.2.1 (by omega)) (And.intro (cellX hm9 hS8.2.2.1 (by omega)) (And.intro (cellX hm9 hS8.2.2.2.1 (by omega)) (And.intro (cellX hm9 hS8.2.2.2.2.1 (by omega)) (cellX hm9 hS8.2.2.2.2.2 (by omega))))));have HB9:=Lh (Mod.below HB8.out hm9 HB8.out.size fun k _ q=>by rw[q];exact hz8);clear hm9 r0 r1 rf rf0 rf1;refine V hK hS9 ?_;clear hK K;refine T 12 hS9 ?_;refine wpAnyH_done (by kernel_rfl) ?_ _;clear hS9 HMg HBd;cases hbo:Gp.blocksOf g.m.ext z.1 with
       |some k=>
        have HE:=Lh (HY.out x HDm.out.1 HDm.out.2 (by
         rw[HG.out]
         show(Gp.busyP g m||Gp.busyX g m)=true
         rw[Bool.or_eq_true];exact .inr (List.any_eq_true.2 ⟨z,List.mem_of_getElem? HZ.out,by rw[hbo];rfl⟩)))
        clear hbo;go_wp2;go_ret;exact⟨by rw[HE.out];rfl,bQ HW4.out.2.1 (bQ HB4.out HB9.out)⟩
       |none=>
        have HBo:=Lh hbo;clear hbo;go_wp2;refine⟨⟨i+1,by omega,by go_num,fun k y hk hy=> ?_,bQ (bQ Hbi.out Br) (bQ HAl.out HB9.out)⟩,by simp[intOf];omega⟩;rcases Nat.lt_or_ge k i with q|q
        ·exact Hni.out k y q hy
        ·obtain rfl:k=i:=by omega
         rw[HZ.out] at hy;cases hy;exact HBo.out
      ·go_simp;have hb8:Below wd.heap.size wd (wd.alloc (.cells #[.int .u32 0,.int .u32 0] 290)):=Ba _;have hk8:=heap_alloc_new wd (.cells #[.int .u32 0,.int .u32 0] 290);have hS8:=And.intro (cQ hb8 hS.1) (And.intro (cQ hb8 hS.2.1) (And.intro (cQ hb8 hS.2.2.1) (And.intro (cQ hb8 hS.2.2.2.1) (And.intro (cQ hb8 hS.2.2.2.2.1) (cQ hb8 hS.2.2.2.2.2)))));have HB8:=Lh (bQ HBd.out hb8);have HK8:=Lh hk8
       change K _ (wd.alloc (.cells #[.int .u32 0,.int .u32 0] 290))
       have hz8:w6.heap.size≤wd.heap.size:=HBd.out.size;generalize hw8:wd.alloc (.cells #[.int .u32 0,.int .u32 0] 290)=w8 at*;clear hb8 hw8 hk8 hS;refine V hK hS8 ?_;clear hK K;refine U 6 fun K hK=> ?_
       go_simp;go_at_call 250;refine(extent (HMg.out w8 HB8.out) z.1).mono ?_;rintro e w7 ⟨⟨ei,en,rfl,_⟩,hb7⟩;have hS7:=And.intro (cQ hb7 hS8.1) (And.intro (cQ hb7 hS8.2.1) (And.intro (cQ hb7 hS8.2.2.1) (And.intro (cQ hb7 hS8.2.2.2.1) (And.intro (cQ hb7 hS8.2.2.2.2.1) (cQ hb7 hS8.2.2.2.2.2)))));have HB7:=Lh (bQ HB8.out hb7);have hk7:=(hb7.block _ (lQ HK8.out)).trans HK8.out;clear hb7 hS8;refine V hK hS7 ?_;clear hK K;refine T 7 hS7 ?_;refine T 8 hS7 ?_;refine T 9 hS7 ?_;obtain⟨r0,r1,rf⟩:=two_of hk7;have rf0:=rf 0;have rf1:=rf 1;refine U 11 fun K hK=> ?_
       go_simp;have hm9:=set2_mod w7 wd.heap.size (.int .u32 ei) (.int .u32 en);have hl:=HL6.out;have hS9:=And.intro (cellX hm9 hS7.1 (by omega)) (And.intro (cellX hm9 hS7.2.1 (by omega)) (And.intro (cellX hm9 hS7.2.2.1 (by omega)) (And.intro (cellX hm9 hS7.2.2.2.1 (by omega)) (And.intro (cellX hm9 hS7.2.2.2.2.1 (by omega)) (cellX hm9 hS7.2.2.2.2.2 (by omega))))));have HB9:=Lh (Mod.below HB7.out hm9 HB7.out.size fun k _ q=>by rw[q];exact hz8);clear hm9 r0 r1 rf rf0 rf1 hk7;refine V hK hS9 ?_;clear hK K;refine T 12 hS9 ?_;refine wpAnyH_done (by kernel_rfl) ?_ _;clear hS9 HMg HBd;cases hbo:Gp.blocksOf g.m.ext z.1 with
       |some k=>
        have HE:=Lh (HY.out x HDm.out.1 HDm.out.2 (by
         rw[HG.out]
         show(Gp.busyP g m||Gp.busyX g m)=true
         rw[Bool.or_eq_true];exact .inr (List.any_eq_true.2 ⟨z,List.mem_of_getElem? HZ.out,by rw[hbo];rfl⟩)))
        clear hbo;go_wp2;go_ret;exact⟨by rw[HE.out];rfl,bQ HW4.out.2.1 (bQ HB4.out HB9.out)⟩
       |none=>
        have HBo:=Lh hbo;clear hbo;go_wp2;refine⟨⟨i+1,by omega,by go_num,fun k y hk hy=> ?_,bQ (bQ Hbi.out Br) (bQ HAl.out HB9.out)⟩,by simp[intOf];omega⟩;rcases Nat.lt_or_ge k i with q|q
        ·exact Hni.out k y q hy
        ·obtain rfl:k=i:=by omega
         rw[HZ.out] at hy;cases hy;exact HBo.out
     ·have HXn:=Lh (HNo2.out (by
       show(Gp.busyP g m||Gp.busyX g m)=false
       rw[HPB.out]
       show Gp.busyX g m=false
       unfold Gp.busyX;rw[List.any_eq_false];intro y hy;obtain⟨k,hk⟩:=List.getElem?_of_mem hy;rw[Hni.out k y (by have:=(List.getElem?_eq_some_iff.1 hk).1;omega) hk]
       simp))
      have hi1:¬(i:Int)<m.ext.length:=by omega
      have hrel':buRel w a G m (.slice eo m.ext.length ec) (.slice po m.ports.length pc) D n r wr:=⟨_,_,ranges_below HW4.out.1 Hbi.out,bQ HW4.out.2.1 Hbi.out,HR4.out,(Hbi.out.block _ (lQ HW4.out.2.2.1)).trans HW4.out.2.2.1,HXn.out⟩;have hms:wr.rangeLeft a.mb r=w4.rangeLeft a.mb r:=by rw[(ranges_below HW4.out.1 Hbi.out).left_eq,HW4.out.1.left_eq]
      have HRl:=Lh hrel';have HMs:=Lh (show wr.rangeLeft a.mb r<_ from hms▸HW4.out.2.2.2.2.1);clear hrel' hms;go_wp2;exact⟨HRl.out,HMs.out⟩
end
end Ca
end Go.Proofs.YtnpicaigdfnmfaaGreat
