/- Srt: SrtA, SrtB, SrtC, SrtD, SrtE, SrtF, SrtG in one text. -/
import Derived.Test.YtnpicaigdfnmfaaGreatProg
import Derived.Test.YtnpicaigdfnmfaaGreatPnBase
import Derived.Sort.Row
import Derived.Sort.LotA
import Derived.Sort.LotB
import Derived.Sort.LotC
import Derived.Sort.LotD3
import Derived.BigGuard
import Derived.BigCall
import Derived.CellFam
import Derived.Deep.Draws
import Derived.Deep.QuietTactic
import Derived.BigQuiet
import Derived.RegionTactic
import Derived.LoopTactic
import Derived.Deep.DeepCutAuto
import Derived.Sort.LotD1
import Derived.Lib.BitFns
import Derived.Lib.Strings
import Derived.Laws.BitsAllLaws
import Derived.Test.YtnpicaigdfnmfaaGreatPnZa
set_option linter.unusedVariables false
set_option linter.unusedSimpArgs false
set_option maxRecDepth 100000
set_option maxHeartbeats 16000000
open Go.Proofs.Tryz
namespace Go.Proofs.YtnpicaigdfnmfaaGreat.Srt
open Go.RowKit Go.Sort
structure SW(W0 w:World)(blk off:Nat)(e:TypeId)(N:Nat)(d:Array Int):Prop where
 mod:Mod (fun k=>k=blk) W0 w
 row:∃cur,w.heap[blk]? =some (.cells cur e (0,0))∧cur.size=N∧∀j,j<d.size→cur[off+j]? =some (.int .u32 d[j]!)
section
variable {W0 w:World} {blk off:Nat} {e:TypeId} {N:Nat} {d:Array Int}
theorem SW.cells(h:SW W0 w blk off e N d)(t:Nat)(ht:t<d.size):w.cell? ⟨blk,off+t,none⟩=some (.int .u32 d[t]!):=by
 obtain⟨cur,hb,_,hc⟩:=h.row;unfold World.cell?;rw[hb]
 simpa using hc t ht
theorem SW.free(h:SW W0 w blk off e N d)(x:Nat):w.frozen? ⟨blk,x,none⟩=false:=by
 obtain⟨cur,hb,_,hc⟩:=h.row;unfold World.frozen?;rw[hb]
 simp
theorem SW.lt(h:SW W0 w blk off e N d):blk<w.heap.size:=by
 obtain⟨cur,hb,_,_⟩:=h.row;exact(Array.getElem?_eq_some_iff.1 hb).1
theorem SW.drewN(h:SW W0 w blk off e N d)(n:Nat):SW W0 (w.drewN n) blk off e N d:=⟨⟨h.mod.os,h.mod.tape,h.mod.output,h.mod.size,h.mod.block⟩,h.row⟩
theorem SW.set(h:SW W0 w blk off e N d)(j:Nat)(hj:j<d.size)(x:Int):SW W0 (w.setCell ⟨blk,off+j,none⟩ (.int .u32 x)) blk off e N (d.setIfInBounds j x):=by
 obtain⟨cur,hb,hs,hc⟩:=h.row;refine⟨h.mod.setCell _ (.inl rfl) _,_,heap_setCell_same w blk (off+j) cur e _ hb,by simpa using hs,fun t ht=> ?_⟩;rw[Array.size_setIfInBounds] at ht;rw[Array.getElem?_setIfInBounds]
 by_cases g:off+j=off+t
 ·obtain rfl:j=t:=by omega
  have:=(Array.getElem?_eq_some_iff.1 (hc j hj)).1;rw[if_pos rfl,if_pos this,getElem!_set_same d j x hj]
 ·rw[if_neg g,hc t ht,getElem!_set_other d j t x (by omega)]
theorem SW.swap(h:SW W0 w blk off e N d)(i j:Nat)(hi:i<d.size)(hj:j<d.size):SW W0 ((w.setCell ⟨blk,off+i,none⟩ (.int .u32 d[j]!)).setCell ⟨blk,off+j,none⟩ (.int .u32 d[i]!)) blk off e N (swp d i j):=
 (h.set i hi _).set j (by simpa using hj) _
theorem SW.below{w':World}(h:SW W0 w blk off e N d)(hb:Below w.heap.size w w'):SW W0 w' blk off e N d:=by
 obtain⟨cur,hk,hs,hc⟩:=h.row;exact⟨h.mod.same (Mod.of_below hb _),cur,(hb.block _ h.lt).trans hk,hs,hc⟩
end
theorem isNaN(x:Int)(w:World):Calls Tryz.prog 281 #[.int .u32 x] w fun e w'=>e=.returned (.bool false)∧w=w':=by
 go_enter func281,ntmps281;go_wp2;go_ret;exact⟨by simp,rfl⟩
theorem less(x y:Int)(w:World):Calls Tryz.prog 219 #[.int .u32 x,.int .u32 y] w fun e w'=>e=.returned (.bool (ltInt x y))∧w'=w:=by
 go_enter func219,ntmps219;go_wp2_with (go_at_call 281;(with_reducible refine(isNaN _ _).mono ?_);rintro e w' ⟨rfl,rfl⟩);go_ret;exact⟨rfl,rfl⟩
section
variable (lt:Int→Int→Bool)
theorem inn_go(a j:Nat)(d:Array Int)(h:a<j)(hl:lt d[j]! d[j - 1]! =true):insInner lt a j d=insInner lt a (j - 1) (swp d j (j - 1)):=by
 cases j with
 |zero=>omega
 |succ k=>
  have hl':lt d[k+1]! d[k]! =true:=hl;rw[insInner,if_pos (by rw[hl',Bool.and_true];exact decide_eq_true h)];rfl
theorem inn_stop(a j:Nat)(d:Array Int)(h:j≤a∨lt d[j]! d[j - 1]! =false):insInner lt a j d=d:=by
 cases j with
 |zero=>rfl
 |succ k=>
  rw[insInner,if_neg];rw[Bool.and_eq_true,decide_eq_true_eq];rintro⟨h1,h2⟩;rcases h with h|h
  ·omega
  ·rw[show d[k+1 - 1]! =d[k]! from rfl,h2] at h;cases h
theorem out_go(a b i:Nat)(d:Array Int)(h:i<b):insOuter lt a b i d=insOuter lt a b (i+1) (insInner lt a i d):=by rw[insOuter,if_pos h]
theorem out_stop(a b i:Nat)(d:Array Int)(h:b≤i):insOuter lt a b i d=d:=by rw[insOuter,if_neg (by omega)]
theorem rev_go(i j:Nat)(d:Array Int)(h:i<j):reverseLoop i j d=reverseLoop (i+1) (j - 1) (swp d i j):=by rw[reverseLoop,if_pos h]
theorem rev_stop(i j:Nat)(d:Array Int)(h:¬i<j):reverseLoop i j d=d:=by rw[reverseLoop,if_neg h]
end
def insRel(W0:World)(blk off:Nat)(e:TypeId)(N:Nat)(d:Array Int)(a b:Nat)(vi:Value)(wr:World):Prop:=
 ∃(i:Nat) (dk:Array Int),vi=.int .i64 i∧a<i∧i≤b+1∧dk.size=d.size∧SW W0 wr blk off e N dk∧insOuter ltInt a b i dk=insOuter ltInt a b (a+1) d
def innRel(W0:World)(blk off:Nat)(e:TypeId)(N:Nat)(d dk:Array Int)(a i:Nat)(vj:Value)(wr:World):Prop:=
 ∃(j:Nat) (dj:Array Int),vj=.int .i64 j∧a≤j∧j≤i∧dj.size=d.size∧SW W0 wr blk off e N dj∧insInner ltInt a j dj=insInner ltInt a i dk
theorem insertionSort{W0 w:World}{blk off:Nat}{e:TypeId}{N:Nat}{d:Array Int}(h:SW W0 w blk off e N d)(cap a b:Nat)(hab:a≤b)(hb:b≤d.size)(hsz:d.size<4611686018427387904):
  Calls Tryz.prog 213 #[.slice (some ⟨blk,off,none⟩) d.size cap,.int .i64 a,.int .i64 b] w fun x w'=>x=.returned (.tuple #[])∧SW W0 w' blk off e N (Sort.insertionSort ltInt d a b):=by
 have H:=Lh h;clear h;generalize hn:d.size=n at*;have Hn:=Lh hn;clear hn;go_enter func213,ntmps213;go_wp2;go_loopw [6,7] (fun vi _ wr=>insRel W0 blk off e N d a b vi wr) (fun vi _ _=>b+1 - (intOf vi).toNat)
 case atStart=>exact⟨a+1,d,by go_num,by omega,by omega,rfl,H.out,rfl⟩
 case round=>
  obtain⟨i,dk,rfl,hai,hib,hsk,hsw,hO⟩:=hrel;have HO:=Lh hO;have HS:=Lh hsw;have Hsk:=Lh hsk;clear hO hsw hsk
  by_cases hlt:i<b
  ·go_wp2
   rename World=>W1
   go_loopw [7] (fun vj wr=>innRel W0 blk off e N d dk a i vj wr) (fun vj _=>(intOf vj).toNat)
   case atStart=>exact⟨i,dk,rfl,by omega,Nat.le_refl _,Hsk.out,HS.out,rfl⟩
   case round=>
    obtain⟨j,dj,rfl,haj,hji,hsj,hs2,hI⟩:=hrel;have hsj2:=hsj.trans Hn.out;obtain⟨G,hG⟩:∃G:Nat→Int,∀t,G t=dj[t]! :=⟨fun t=>dj[t]!,fun _=>rfl⟩;have hcw:∀t,t<n→wr.cell? ⟨blk,off+t,none⟩=some (.int .u32 (G t)):=fun t ht=>by rw[hG];exact hs2.cells t (by omega)
    have hfw:∀t,t<n→wr.frozen? ⟨blk,off+t,none⟩=false:=fun t ht=>hs2.free _
    have HG:=Lh hG;have HI:=Lh hI;have HS2:=Lh hs2;have Hsj:=Lh hsj;have Hsj2:=Lh hsj2;have done:Hid ((j≤a∨ltInt dj[j]! dj[j - 1]! =false)→∀q,insRel W0 blk off e N d a b (.int .i64 ((i:Int)+1)) (wr.drewN q)):=Lh fun hs q=>
     ⟨i+1,dj,by go_num,by omega,by omega,Hsj.out,HS2.out.drewN q,by rw[←HO.out,out_go _ _ _ _ _ hlt,←HI.out,inn_stop _ _ _ _ hs]⟩
    clear hG hI hs2 hsj hsj2
    by_cases hja:a<j
    ·go_wp2_with fail;go_quiet ((go_at_call 219;exact Calls.quiet_of_same (less _ _ _)));go_wp2
     ·have hl:ltInt (G j) (G (j - 1))=true:=by assumption
      go_region
      all_goals go_wp2
      go_roundw
      case rel=>
       refine⟨j - 1,swp dj j (j - 1),by congr 1;omega,by omega,by omega,by rw[size_swp];exact Hsj.out, ?_, ?_⟩
       ·rw[HG.out,HG.out];have:=((HS2.out.drewN (nq+1)).swap j (j - 1) (by rw[Hsj2.out];omega) (by rw[Hsj2.out];omega));exact this
       ·rw[←HI.out,inn_go ltInt a j dj hja (by rw[←HG.out,←HG.out];exact hl)]
      case measure=>simp[intOf];omega
     ·have hl:ltInt (G j) (G (j - 1))=false:=by assumption
      go_roundw
      case rel=>exact done.out (.inr (by rw[←HG.out,←HG.out];exact hl)) nq
      case measure=>simp[intOf];omega
    ·have hja2:decide ((a:Int)<(j:Int))=false:=by simpa using hja
     go_wp2_with fail;go_quiet ((go_at_call 219;exact Calls.quiet_of_same (less _ _ _)));go_wp2;go_roundw
     case rel=>exact done.out (.inl (by omega)) nq
     case measure=>simp[intOf];omega
  ·go_wp2;go_end0;exact⟨rfl,by unfold Sort.insertionSort;rw[←HO.out,out_stop _ _ _ _ _ (by omega)];exact HS.out⟩
def revRel(W0:World)(blk off:Nat)(e:TypeId)(N:Nat)(d:Array Int)(a b:Nat)(vi vj:Value)(wr:World):Prop:=
 ∃(i j:Nat) (dk:Array Int),vi=.int .i64 i∧vj=.int .i64 j∧a≤i∧j<b∧dk.size=d.size∧SW W0 wr blk off e N dk∧reverseLoop i j dk=reverseLoop a (b - 1) d
theorem reverseRange{W0 w:World}{blk off:Nat}{e:TypeId}{N:Nat}{d:Array Int}(h:SW W0 w blk off e N d)(cap a b:Nat)(hab:a<b)(hb:b≤d.size)(hsz:d.size<4611686018427387904):
  Calls Tryz.prog 217 #[.slice (some ⟨blk,off,none⟩) d.size cap,.int .i64 a,.int .i64 b] w fun x w'=>x=.returned (.tuple #[])∧SW W0 w' blk off e N (Sort.reverseRange d a b):=by
 have H:=Lh h;clear h;generalize hn:d.size=n at*;have Hn:=Lh hn;clear hn;go_enter func217,ntmps217;go_wp2;go_loopw [6,7] (fun vi vj wr=>revRel W0 blk off e N d a b vi vj wr) (fun vi vj _=>(intOf vj).toNat - (intOf vi).toNat)
 case atStart=>exact⟨a,b - 1,d,by go_num,by go_num,by omega,by omega,rfl,H.out,rfl⟩
 case round=>
  obtain⟨i,j,dk,rfl,rfl,hai,hjb,hsk,hsw,hO⟩:=hrel;have hsk2:=hsk.trans Hn.out;obtain⟨G,hG⟩:∃G:Nat→Int,∀t,G t=dk[t]! :=⟨fun t=>dk[t]!,fun _=>rfl⟩;have hcw:∀t,t<n→wr.cell? ⟨blk,off+t,none⟩=some (.int .u32 (G t)):=fun t ht=>by rw[hG];exact hsw.cells t (by omega)
  have hfw:∀t,t<n→wr.frozen? ⟨blk,off+t,none⟩=false:=fun t ht=>hsw.free _
  have HG:=Lh hG;have HO:=Lh hO;have HS:=Lh hsw;have Hsk:=Lh hsk;have Hsk2:=Lh hsk2;clear hO hsw hsk hG hsk2
  by_cases hlt:i<j
  ·go_wp2;go_region
   all_goals go_wp2
   go_roundw
   case rel=>
    refine⟨i+1,j - 1,swp dk i j,by go_num,by go_num,by omega,by omega,by rw[size_swp];exact Hsk.out, ?_, ?_⟩
    ·rw[HG.out,HG.out];have:=((HS.out.drewN 1).swap i j (by rw[Hsk2.out];omega) (by rw[Hsk2.out];omega));exact this
    ·rw[←HO.out,rev_go i j dk hlt]
   case measure=>simp[intOf];omega
  ·go_wp2;go_end0;exact⟨rfl,by unfold Sort.reverseRange;rw[←HO.out,rev_stop _ _ _ hlt];exact HS.out⟩
end Go.Proofs.YtnpicaigdfnmfaaGreat.Srt
namespace Go.Proofs.YtnpicaigdfnmfaaGreat.Srt
open Go.RowKit Go.Sort
section
variable (lt:Int→Int→Bool)
theorem sd_stop(hi F r:Nat)(d:Array Int)(h:hi≤2*r+1):siftDown lt hi F r d=d:=by rw[siftDown,dif_pos (by omega)]
theorem sd_two(hi F r:Nat)(d:Array Int)(h:2*r+2<hi)(hl:lt d[F+(2*r+1)]! d[F+(2*r+1)+1]! =true):
  siftDown lt hi F r d=if lt d[F+r]! d[F+(2*r+2)]! =false then d else siftDown lt hi F (2*r+2) (swp d (F+r) (F+(2*r+2))):=by
 rw[siftDown,dif_neg (by omega),if_pos (by rw[hl,Bool.and_true];exact decide_eq_true (by omega))];cases lt d[F+r]! d[F+(2*r+2)]! with
 |false=>rfl
 |true=>rw[if_neg (by simp),dif_pos h,if_neg (by simp)]
theorem sd_one(hi F r:Nat)(d:Array Int)(h1:2*r+1<hi)(h:¬2*r+2<hi∨lt d[F+(2*r+1)]! d[F+(2*r+1)+1]! =false):
  siftDown lt hi F r d=if lt d[F+r]! d[F+(2*r+1)]! =false then d else siftDown lt hi F (2*r+1) (swp d (F+r) (F+(2*r+1))):=by
 rw[siftDown,dif_neg (by omega),if_neg]
 ·cases lt d[F+r]! d[F+(2*r+1)]! with
  |false=>rfl
  |true=>rw[if_neg (by simp),if_neg (by simp)]
 ·rw[Bool.and_eq_true,decide_eq_true_eq];rintro⟨g1,g2⟩;rcases h with h|h
  ·omega
  ·rw[h] at g2;cases g2
end
def sdRel(W0:World)(blk off:Nat)(e:TypeId)(N:Nat)(d:Array Int)(hi F lo:Nat)(vr:Value)(wr:World):Prop:=
 ∃(r:Nat) (dk:Array Int),vr=.int .i64 r∧lo≤r∧(r=lo∨r<hi)∧dk.size=d.size∧SW W0 wr blk off e N dk∧siftDown ltInt hi F r dk=siftDown ltInt hi F lo d
theorem siftDown_any{W0 w:World}{blk off:Nat}{e:TypeId}{N:Nat}{d:Array Int}(h:SW W0 w blk off e N d)(cap lo hi F:Nat)(hb:F+hi≤d.size)(hl:lo≤d.size)(hsz:d.size<4611686018427387904):
  Calls Tryz.prog 276 #[.slice (some ⟨blk,off,none⟩) d.size cap,.int .i64 lo,.int .i64 hi,.int .i64 F] w fun x w'=>x=.returned (.tuple #[])∧SW W0 w' blk off e N (Sort.siftDown ltInt hi F lo d):=by
 have H:=Lh h;clear h;generalize hn:d.size=n at*;have Hn:=Lh hn;clear hn;go_enter func276,ntmps276;go_wp2;go_loopw [8,9] (fun vr _ wr=>sdRel W0 blk off e N d hi F lo vr wr) (fun vr _ _=>hi - (intOf vr).toNat)
 case atStart=>exact⟨lo,d,by go_num,by omega,.inl rfl,rfl,H.out,rfl⟩
 case round=>
  obtain⟨r,dk,rfl,hlr,hrh,hsk,hsw,hO⟩:=hrel;have hsk2:=hsk.trans Hn.out;obtain⟨G,hG⟩:∃G:Nat→Int,∀t,G t=dk[t]! :=⟨fun t=>dk[t]!,fun _=>rfl⟩;have hcw:∀t,t<n→wr.cell? ⟨blk,off+t,none⟩=some (.int .u32 (G t)):=fun t ht=>by rw[hG];exact hsw.cells t (by omega)
  have HG:=Lh hG;have HO:=Lh hO;have HS:=Lh hsw;have Hsk:=Lh hsk;have Hsk2:=Lh hsk2;clear hO hsw hsk hG hsk2
  by_cases h1:2*r+1<hi
  ·have step:∀(c:Nat) (hc:c<hi) (hrc:r<c) (q:Nat) (W:World) (hW:SW W0 W blk off e N dk) (hm:siftDown ltInt hi F r dk=if ltInt dk[F+r]! dk[F+c]! =false then dk else siftDown ltInt hi F c (swp dk (F+r) (F+c))) (hl:ltInt (G (F+r)) (G (F+c))=true),
     sdRel W0 blk off e N d hi F lo (.int .i64 (c:Int)) (((W.drewN q).setCell ⟨blk,off+(F+r),none⟩ (.int .u32 (G (F+c)))).setCell ⟨blk,off+(F+c),none⟩ (.int .u32 (G (F+r)))):=by
    intro c hc hrc q W hW hm hl;refine⟨c,swp dk (F+r) (F+c),rfl,by omega,.inr hc,by rw[size_swp];exact Hsk.out, ?_, ?_⟩
    ·rw[HG.out,HG.out];exact(hW.drewN q).swap (F+r) (F+c) (by rw[Hsk2.out];omega) (by rw[Hsk2.out];omega)
    ·rw[←HO.out,hm,if_neg (by rw[←HG.out,←HG.out,hl];simp)]
   have fin:∀(c q:Nat) (W:World) (hW:SW W0 W blk off e N dk) (hm:siftDown ltInt hi F r dk=if ltInt dk[F+r]! dk[F+c]! =false then dk else siftDown ltInt hi F c (swp dk (F+r) (F+c))) (hl:ltInt (G (F+r)) (G (F+c))=false),
     SW W0 (W.drewN q) blk off e N (Sort.siftDown ltInt hi F lo d):=by
    intro c q W hW hm hl;rw[←HO.out,hm,if_pos (by rw[←HG.out,←HG.out,hl])];exact hW.drewN q
   have Step:=Lh step;have Fin:=Lh fin;clear step fin;have hr:r<n:=by omega
   have h1z:¬((hi:Int)≤2*(r:Int)+1):=by omega
   -- WAYS
   by_cases h2:2*r+2<hi
   ·have h2z:2*(r:Int)+1+1<(hi:Int):=by omega
    go_wp2_with fail;go_big_quiet (first|(go_at_call 219;refine Calls.quiet_of_same (less _ _ _)));go_wp2_with fail
    ·have hl:ltInt (G (F+2*r+1)) (G (F+2*r+2))=true:=by assumption
     have Hm:=Lh (sd_two ltInt hi F r dk h2 (by have:=hl;rw[HG.out,HG.out] at this;exact this));generalize hW2:wr.drewN nq=W2;have hcw2:∀t,t<n→W2.cell? ⟨blk,off+t,none⟩=some (.int .u32 (G t)):=fun t ht=>by rw[←hW2];exact hcw t ht
     have hfw2:∀t,t<n→W2.frozen? ⟨blk,off+t,none⟩=false:=fun t ht=>by rw[←hW2];exact HS.out.free _
     have HS2:Hid (SW W0 W2 blk off e N dk):=by rw[←hW2];exact HS.out.drewN nq
     clear hW2 hcw nq;go_big_quiet (first|(go_at_call 219;refine Calls.quiet_of_same (less _ _ _)));go_wp2_with fail
     ·have hl2:ltInt (G (F+r)) (G (F+2*r+2))=false:=by
       have:(!ltInt (G (F+r)) (G (F+2*r+2)))=true:=by assumption
       simpa using this
      (try simp only[Exit.inBlock,Exit.then]);refine bodyPost_ret (results_none rfl _ _ _) rfl ?_
      exact⟨rfl,Fin.out (2*r+2) nq W2 HS2.out Hm.out hl2⟩
     ·have hl2:ltInt (G (F+r)) (G (F+2*r+2))=true:=by
       have:(!ltInt (G (F+r)) (G (F+2*r+2)))=false:=by assumption
       simpa using this
      have hS:=Lh (Step.out (2*r+2) (by omega) (by omega) (nq+1) W2 HS2.out Hm.out hl2);generalize hW3:W2.drewN nq=W3 at*;have hcw3:∀t,t<n→W3.cell? ⟨blk,off+t,none⟩=some (.int .u32 (G t)):=fun t ht=>by rw[←hW3];exact hcw2 t ht
      have hfw3:∀t,t<n→W3.frozen? ⟨blk,off+t,none⟩=false:=fun t ht=>by rw[←hW3];exact hfw2 t ht
      have HW3:=Lh hW3;clear hcw2 hfw2 hW3;go_region;go_wp2;go_roundw
      case rel=>rw[←HW3.out];exact hS.out
      case measure=>simp[intOf];omega
    ·have hl:ltInt (G (F+2*r+1)) (G (F+2*r+2))=false:=by assumption
     have Hm:=Lh (sd_one ltInt hi F r dk h1 (.inr (by have:=hl;rw[HG.out,HG.out] at this;exact this)));generalize hW2:wr.drewN nq=W2;have hcw2:∀t,t<n→W2.cell? ⟨blk,off+t,none⟩=some (.int .u32 (G t)):=fun t ht=>by rw[←hW2];exact hcw t ht
     have hfw2:∀t,t<n→W2.frozen? ⟨blk,off+t,none⟩=false:=fun t ht=>by rw[←hW2];exact HS.out.free _
     have HS2:Hid (SW W0 W2 blk off e N dk):=by rw[←hW2];exact HS.out.drewN nq
     clear hW2 hcw nq;go_big_quiet (first|(go_at_call 219;refine Calls.quiet_of_same (less _ _ _)));go_wp2_with fail
     ·have hl2:ltInt (G (F+r)) (G (F+2*r+1))=false:=by
       have:(!ltInt (G (F+r)) (G (F+2*r+1)))=true:=by assumption
       simpa using this
      (try simp only[Exit.inBlock,Exit.then]);refine bodyPost_ret (results_none rfl _ _ _) rfl ?_
      exact⟨rfl,Fin.out (2*r+1) nq W2 HS2.out Hm.out hl2⟩
     ·have hl2:ltInt (G (F+r)) (G (F+2*r+1))=true:=by
       have:(!ltInt (G (F+r)) (G (F+2*r+1)))=false:=by assumption
       simpa using this
      have hS:=Lh (Step.out (2*r+1) (by omega) (by omega) (nq+1) W2 HS2.out Hm.out hl2);generalize hW3:W2.drewN nq=W3 at*;have hcw3:∀t,t<n→W3.cell? ⟨blk,off+t,none⟩=some (.int .u32 (G t)):=fun t ht=>by rw[←hW3];exact hcw2 t ht
      have hfw3:∀t,t<n→W3.frozen? ⟨blk,off+t,none⟩=false:=fun t ht=>by rw[←hW3];exact hfw2 t ht
      have HW3:=Lh hW3;clear hcw2 hfw2 hW3;go_region;go_wp2;go_roundw
      case rel=>rw[←HW3.out];exact hS.out
      case measure=>simp[intOf];omega
   ·have h2z:decide (2*(r:Int)+1+1<(hi:Int))=false:=decide_eq_false (by omega);have Hm:=Lh (sd_one ltInt hi F r dk h1 (.inl h2));go_wp2_with fail;go_big_quiet (first|(go_at_call 219;refine Calls.quiet_of_same (less _ _ _)));go_wp2_with fail;generalize hW2:wr.drewN nq=W2;have hcw2:∀t,t<n→W2.cell? ⟨blk,off+t,none⟩=some (.int .u32 (G t)):=fun t ht=>by rw[←hW2];exact hcw t ht
    have hfw2:∀t,t<n→W2.frozen? ⟨blk,off+t,none⟩=false:=fun t ht=>by rw[←hW2];exact HS.out.free _
    have HS2:Hid (SW W0 W2 blk off e N dk):=by rw[←hW2];exact HS.out.drewN nq
    clear hW2 hcw nq;go_big_quiet (first|(go_at_call 219;refine Calls.quiet_of_same (less _ _ _)));go_wp2_with fail
    ·have hl2:ltInt (G (F+r)) (G (F+2*r+1))=false:=by
      have:(!ltInt (G (F+r)) (G (F+2*r+1)))=true:=by assumption
      simpa using this
     (try simp only[Exit.inBlock,Exit.then]);refine bodyPost_ret (results_none rfl _ _ _) rfl ?_
     exact⟨rfl,Fin.out (2*r+1) nq W2 HS2.out Hm.out hl2⟩
    ·have hl2:ltInt (G (F+r)) (G (F+2*r+1))=true:=by
      have:(!ltInt (G (F+r)) (G (F+2*r+1)))=false:=by assumption
      simpa using this
     have hS:=Lh (Step.out (2*r+1) (by omega) (by omega) (nq+1) W2 HS2.out Hm.out hl2);generalize hW3:W2.drewN nq=W3 at*;have hcw3:∀t,t<n→W3.cell? ⟨blk,off+t,none⟩=some (.int .u32 (G t)):=fun t ht=>by rw[←hW3];exact hcw2 t ht
     have hfw3:∀t,t<n→W3.frozen? ⟨blk,off+t,none⟩=false:=fun t ht=>by rw[←hW3];exact hfw2 t ht
     have HW3:=Lh hW3;clear hcw2 hfw2 hW3;go_region;go_wp2;go_roundw
     case rel=>rw[←HW3.out];exact hS.out
     case measure=>simp[intOf];omega
   -- END
  ·go_wp2;go_end0;exact⟨rfl,by rw[←HO.out,sd_stop _ _ _ _ _ (by omega)];exact HS.out⟩
def hbRel(W0:World)(blk off:Nat)(e:TypeId)(N:Nat)(d:Array Int)(hi F:Nat)(vi:Value)(wr:World):Prop:=
 ∃(k:Nat) (dk:Array Int),vi=.int .i64 ((k:Int) - 1)∧k≤(hi - 1) / 2+1∧dk.size=d.size∧SW W0 wr blk off e N dk∧heapBuild ltInt hi F k dk=heapBuild ltInt hi F ((hi - 1) / 2+1) d
def hpRel(W0:World)(blk off:Nat)(e:TypeId)(N:Nat)(d:Array Int)(hi F:Nat)(D:Array Int)(vi:Value)(wr:World):Prop:=
 ∃(k:Nat) (dk:Array Int),vi=.int .i64 ((k:Int) - 1)∧k≤hi∧dk.size=d.size∧SW W0 wr blk off e N dk∧heapPop ltInt F k dk=D
theorem size_siftDown(hi F r:Nat)(d:Array Int)(h:F+hi≤d.size):(siftDown ltInt hi F r d).size=d.size:=by
 rw[siftDown]
 split
 ·rfl
 ·split
  ·split
   ·rfl
   ·split
    ·rw[size_siftDown hi F (2*r+2) _ (by rw[size_swp];exact h),size_swp]
    ·rfl
  ·split
   ·rfl
   ·rw[size_siftDown hi F (2*r+1) _ (by rw[size_swp];exact h),size_swp]
termination_by hi - r
theorem heapSort_any{W0 w:World}{blk off:Nat}{e:TypeId}{N:Nat}{d:Array Int}(h:SW W0 w blk off e N d)(cap a b:Nat)(hab:a<b)(hb:b≤d.size)(hsz:d.size<4611686018427387904):
  Calls Tryz.prog 214 #[.slice (some ⟨blk,off,none⟩) d.size cap,.int .i64 a,.int .i64 b] w fun x w'=>x=.returned (.tuple #[])∧SW W0 w' blk off e N (Sort.heapSort ltInt d a b):=by
 have H:=Lh h;clear h;have hE:=Lh (show Sort.heapSort ltInt d a b=heapPop ltInt a (b - a) (heapBuild ltInt (b - a) a ((b - a - 1) / 2+1) d) from rfl);obtain⟨l,hl⟩:∃l,b - a=l:=⟨_,rfl⟩;rw[hl] at hE;have hbl:a+l≤b:=by omega
 have hbd:(b:Int) - (a:Int)=(l:Int):=by omega
 have hl0:0<l:=by omega
 clear hl;generalize hn:d.size=n at*;have Hn:=Lh hn;clear hn;go_enter func214,ntmps214;go_wp2;go_loopw [9] (fun vi wr=>hbRel W0 blk off e N d l a vi wr) (fun vi _=>(intOf vi+1).toNat)
 case atStart=>exact⟨(l - 1) / 2+1,d,by go_num,Nat.le_refl _,rfl,H.out,rfl⟩
 case round=>
  obtain⟨k,dk,rfl,hk,hsk,hsw,hO⟩:=hrel;have hsk2:=hsk.trans Hn.out;have HO:=Lh hO;have HS:=Lh hsw;have Hsk:=Lh hsk;cases k with
  |succ k=>
   have hc:=siftDown_any hsw cap k l a (by omega) (by omega) (by omega);rw[hsk2] at hc;have HC:=Lh hc;have Hz:=Lh ((size_siftDown l a k dk (by omega)).trans hsk);clear hO hsw hsk hsk2 hc;go_wp2_with fail;refine HC.out.mono ?_;rintro x w1 ⟨rfl,h1⟩;go_wp2;go_roundw
   case rel=>exact⟨k,_,by go_num,by omega,Hz.out,h1,by rw[←HO.out];rfl⟩
   case measure=>simp[intOf]<;>omega
  |zero=>
   have hO2:heapPop ltInt a l dk=Sort.heapSort ltInt d a b:=by rw[hE.out,←hO];rfl
   have HO2:=Lh hO2;clear hO hsw hsk hsk2 hO2;rw[show(((0:Nat):Int) - 1)= -1 from rfl];go_wp2
   rename World=>W1
   go_loopw [10] (fun vi wr=>hpRel W0 blk off e N d l a (Sort.heapSort ltInt d a b) vi wr) (fun vi _=>(intOf vi+1).toNat)
   case atStart=>exact⟨l,dk,by go_num,Nat.le_refl _,Hsk.out,HS.out,HO2.out⟩
   case round=>
    clear HO HS Hsk HO2 dk;obtain⟨k,dk,rfl,hk,hsk,hsw,hO⟩:=hrel;have hsk2:=hsk.trans Hn.out;have HO:=Lh hO;have HS:=Lh hsw;have Hsk:=Lh hsk;cases k with
    |succ k=>
     have hs2:=(hsw.drewN 1).swap a (a+k) (by omega) (by omega);have hc:=siftDown_any hs2 cap 0 k a (by rw[size_swp];omega) (by omega) (by rw[size_swp];omega);rw[size_swp,hsk2] at hc;obtain⟨G,hG⟩:∃G:Nat→Int,∀t,G t=dk[t]! :=⟨fun t=>dk[t]!,fun _=>rfl⟩;have hcw:∀t,t<n→wr.cell? ⟨blk,off+t,none⟩=some (.int .u32 (G t)):=fun t ht=>by rw[hG];exact hsw.cells t (by omega)
     have hfw:∀t,t<n→wr.frozen? ⟨blk,off+t,none⟩=false:=fun t ht=>hsw.free _
     rw[←hG,←hG] at hc;have HC:=Lh hc;have Hz:=Lh (((size_siftDown k a 0 (swp dk a (a+k)) (by rw[size_swp];omega)).trans (size_swp _ _ _)).trans hsk);clear hO hsw hsk hsk2 hc hs2 hG;rw[show(((k+1:Nat):Int) - 1)=(k:Int) by omega];cases k with
     |zero=>
      rw[show(((0:Nat):Int))=0 from rfl];go_wp2;go_region
      all_goals go_wp2_with fail
      refine HC.out.mono ?_;rintro x w1 ⟨rfl,h1⟩;go_wp2;go_roundw
      case rel=>exact⟨0,_,by go_num,by omega,Hz.out,h1,by rw[←HO.out];rfl⟩
      case measure=>simp[intOf]<;>omega
     |succ k=>
      go_wp2;go_region
      all_goals go_wp2_with fail
      refine HC.out.mono ?_;rintro x w1 ⟨rfl,h1⟩;go_wp2;go_roundw
      case rel=>exact⟨k+1,_,by go_num,by omega,Hz.out,h1,by rw[←HO.out];rfl⟩
      case measure=>simp[intOf]<;>omega
    |zero=>
     clear hO hsw hsk hsk2;rw[show(((0:Nat):Int) - 1)= -1 from rfl];go_wp2;go_end0;exact⟨rfl,by rw[←HO.out];exact HS.out⟩
end Go.Proofs.YtnpicaigdfnmfaaGreat.Srt
namespace Go.Proofs.YtnpicaigdfnmfaaGreat.Srt
open Go.RowKit Go.Sort
structure SC(W0 w:World)(blk off:Nat)(e:TypeId)(N:Nat)(d:Array Int)(sb:Nat)(c:Int):Prop where
 sw:SW W0 w blk off e N d
 new:W0.heap.size≤sb
 ne:sb≠blk
 cnt:w.heap[sb]? =some (.cells #[.int .i64 c] 3 (0,0))
section
variable {W0 w:World} {blk off:Nat} {e:TypeId} {N:Nat} {d:Array Int} {sb:Nat} {c:Int}
theorem SC.drewN(h:SC W0 w blk off e N d sb c)(n:Nat):SC W0 (w.drewN n) blk off e N d sb c:=⟨h.sw.drewN n,h.new,h.ne,h.cnt⟩
theorem SC.cell(h:SC W0 w blk off e N d sb c):w.cell? ⟨sb,0,none⟩=some (.int .i64 c):=by unfold World.cell?;rw[h.cnt];rfl
theorem SC.free(h:SC W0 w blk off e N d sb c):w.frozen? ⟨sb,0,none⟩=false:=by unfold World.frozen?;rw[h.cnt];simp
theorem SC.put(h:SC W0 w blk off e N d sb c)(c':Int):SC W0 (w.setCell ⟨sb,0,none⟩ (.int .i64 c')) blk off e N d sb c':=by
 refine⟨⟨h.sw.mod.setCell _ (.inr h.new) _, ?_⟩,h.new,h.ne, ?_⟩
 ·obtain⟨cur,hb,rest⟩:=h.sw.row;exact⟨cur,by rw[heap_setCell_other _ _ _ _ h.ne.symm];exact hb,rest⟩
 ·have:=heap_setCell_same w sb 0 _ _ (.int .i64 c') h.cnt
  simpa using this
end
def O2(W0:World)(blk off:Nat)(e:TypeId)(N:Nat)(d:Array Int)(sb:Nat)(c:Int)(a b:Nat)(x:Ending)(w':World):Prop:=
 ∃(p q:Nat) (c':Int),x=.returned (.tuple #[.int .i64 p,.int .i64 q])∧((p=a∧q=b)∨(p=b∧q=a))∧c≤c'∧c'≤c+1∧SC W0 w' blk off e N d sb c'
def O1(W0:World)(blk off:Nat)(e:TypeId)(N:Nat)(d:Array Int)(sb:Nat)(c:Int)(lo hi:Nat)(k:Int)(x:Ending)(w':World):Prop:=
 ∃(p:Nat) (c':Int),x=.returned (.int .i64 p)∧lo≤p∧p<hi∧c≤c'∧c'≤c+k∧SC W0 w' blk off e N d sb c'
theorem order2{W0 w:World}{blk off:Nat}{e:TypeId}{N:Nat}{d:Array Int}{sb:Nat}{c:Int}(h:SC W0 w blk off e N d sb c)(cap a b:Nat)(ha:a<d.size)(hb:b<d.size)(hsz:d.size<4611686018427387904)(c0:0≤c)(c1:c≤100):
  Calls Tryz.prog 311 #[.slice (some ⟨blk,off,none⟩) d.size cap,.int .i64 a,.int .i64 b,.pointer (some ⟨sb,0,none⟩)] w (O2 W0 blk off e N d sb c a b):=by
 have H:=Lh h;generalize hn:d.size=n at*;have Hn:=Lh hn;obtain⟨G,hG⟩:∃G:Nat→Int,∀t,G t=d[t]! :=⟨fun t=>d[t]!,fun _=>rfl⟩;have hcw:∀t,t<n→w.cell? ⟨blk,off+t,none⟩=some (.int .u32 (G t)):=fun t ht=>by rw[hG];exact h.sw.cells t (by omega)
 clear h hn hG;go_enter func311,ntmps311;go_wp2;go_quiet ((go_at_call 219;exact Calls.quiet_of_same (less _ _ _)));generalize hW2:w.drewN nq=W2;have H2:Hid (SC W0 W2 blk off e N d sb c):=Lh (by rw[←hW2];exact H.out.drewN nq);have hcc:=H2.out.cell;have hff:=H2.out.free;clear hcw hW2;go_wp2
 ·go_ret2;exact⟨b,a,c+1,rfl,.inr ⟨rfl,rfl⟩,by omega,by omega,H2.out.put _⟩
 ·go_ret2;exact⟨a,b,c,rfl,.inl ⟨rfl,rfl⟩,by omega,by omega,H2.out⟩
theorem median{W0 w:World}{blk off:Nat}{e:TypeId}{N:Nat}{d:Array Int}{sb:Nat}{c:Int}(h:SC W0 w blk off e N d sb c)(cap a b x lo hi:Nat)(ha:lo≤a∧a<hi)(hb:lo≤b∧b<hi)(hx:lo≤x∧x<hi)(hh:hi≤d.size)(hsz:d.size<4611686018427387904)(c0:0≤c)(c1:c≤50):
  Calls Tryz.prog 280 #[.slice (some ⟨blk,off,none⟩) d.size cap,.int .i64 a,.int .i64 b,.int .i64 x,.pointer (some ⟨sb,0,none⟩)] w (O1 W0 blk off e N d sb c lo hi 3):=by
 have H:=Lh h;clear h;have k1:=Lh (order2 H.out cap a b (by omega) (by omega) hsz c0 (by omega));go_enter func280,ntmps280;go_wp2_with fail;refine k1.out.mono ?_;rintro y w1 ⟨p1,q1,c2,rfl,hp1,g1,g2,h1⟩;have H1:=Lh h1;have k2:=Lh (order2 h1 cap q1 x (by omega) (by omega) hsz (by omega) (by omega));clear h1;go_wp2_with fail;refine k2.out.mono ?_;rintro y w2 ⟨p2,q2,c3,rfl,hp2,g3,g4,h2⟩;have H2:=Lh h2;have k3:=Lh (order2 h2 cap p1 p2 (by omega) (by omega) hsz (by omega) (by omega));clear h2;go_wp2_with fail;refine k3.out.mono ?_;rintro y w3 ⟨p3,q3,c4,rfl,hp3,g5,g6,h3⟩;have H3:=Lh h3;clear h3;go_wp2;go_ret;exact⟨q3,c4,rfl,by omega,by omega,by omega,by omega,H3.out⟩
theorem medianAdjacent{W0 w:World}{blk off:Nat}{e:TypeId}{N:Nat}{d:Array Int}{sb:Nat}{c:Int}(h:SC W0 w blk off e N d sb c)(cap a lo hi:Nat)(ha:lo+1≤a∧a+1<hi)(hh:hi≤d.size)(hsz:d.size<4611686018427387904)(c0:0≤c)(c1:c≤50):
  Calls Tryz.prog 279 #[.slice (some ⟨blk,off,none⟩) d.size cap,.int .i64 a,.pointer (some ⟨sb,0,none⟩)] w (O1 W0 blk off e N d sb c lo hi 3):=by
 have k1:=Lh (median h cap (a - 1) a (a+1) lo hi (by omega) (by omega) (by omega) hh hsz c0 c1);clear h;have e1:((a:Int) - 1)=((a - 1:Nat):Int):=by omega
 go_enter func279,ntmps279;go_wp2_with fail;refine k1.out.mono ?_;rintro y w1 ⟨p,c2,rfl,g0,g1,g2,g3,h1⟩;have H1:=Lh h1;clear h1;go_wp2;go_ret;exact⟨p,c2,rfl,g0,g1,g2,g3,H1.out⟩
def CP(W0:World)(blk off:Nat)(e:TypeId)(N:Nat)(d:Array Int)(a b:Nat)(x:Ending)(w':World):Prop:=
 ∃(p:Nat) (k:Int),x=.returned (.tuple #[.int .i64 p,.int .i64 k])∧a≤p∧p<b∧(k=0∨k=1∨k=2)∧SW W0 w' blk off e N d
theorem choosePivot{W0 w:World}{blk off:Nat}{e:TypeId}{N:Nat}{d:Array Int}(h:SW W0 w blk off e N d)(cap a b:Nat)(hab:a+12<b)(hb:b≤d.size)(hsz:d.size<4611686018427387904):
  Calls Tryz.prog 216 #[.slice (some ⟨blk,off,none⟩) d.size cap,.int .i64 a,.int .i64 b] w (CP W0 blk off e N d a b):=by
 obtain⟨l,hl⟩:∃l,b - a=l:=⟨_,rfl⟩;have hbd:(b:Int) - (a:Int)=(l:Int):=by omega
 have hl1:a+l≤b:=by omega
 have hl2:12<l:=by omega
 clear hl;have h0:SC W0 (w.alloc (.cells #[.int .i64 0] 3)) blk off e N d w.heap.size 0:=
  ⟨h.below (Ba _),h.mod.size,by have:=h.lt;omega,by have:=heap_alloc_new w (.cells #[.int .i64 0] 3);simpa using this⟩
 have H0:=Lh h0;clear h0 h;obtain⟨i,hi⟩:∃i,a+l / 4=i:=⟨_,rfl⟩;obtain⟨j,hj⟩:∃j,a+l / 4*2=j:=⟨_,rfl⟩;obtain⟨k,hk⟩:∃k,a+l / 4*3=k:=⟨_,rfl⟩;have ei:(a:Int)+(l:Int) / 4=(i:Int):=by omega
 have ej:(a:Int)+(l:Int) / 4*2=(j:Int):=by omega
 have ek:(a:Int)+(l:Int) / 4*3=(k:Int):=by omega
 have i0:a≤i∧i<b:=by omega
 have j0:a≤j∧j<b:=by omega
 have k0:a≤k∧k<b:=by omega
 have fin:Hid (∀(p:Nat) (c:Int) (W:World),a≤p→p<b→SC W0 W blk off e N d w.heap.size c→∀q:Int,(q=0∨q=1∨q=2)→CP W0 blk off e N d a b (.returned (.tuple #[.int .i64 p,.int .i64 q])) W):=Lh fun p c W h1 h2 h3 q h4=>⟨p,q,rfl,h1,h2,h4,h3.sw⟩
 by_cases h50:50≤l
 ·have i1:a+1≤i∧i+1<b:=by omega
  have j1:a+1≤j∧j+1<b:=by omega
  have k1:a+1≤k∧k+1<b:=by omega
  clear hi hj hk;have c1:=Lh (medianAdjacent H0.out cap i a b i1 hb hsz (by omega) (by omega));go_enter func216,ntmps216;go_wp2_with fail;refine c1.out.mono ?_;rintro y w1 ⟨p1,x1,rfl,g1,g2,g3,g4,h1⟩;have c2:=Lh (medianAdjacent h1 cap j a b j1 hb hsz (by omega) (by omega));clear h1;go_wp2_with fail;refine c2.out.mono ?_;rintro y w2 ⟨p2,x2,rfl,g5,g6,g7,g8,h2⟩;have c3:=Lh (medianAdjacent h2 cap k a b k1 hb hsz (by omega) (by omega));clear h2;go_wp2_with fail;refine c3.out.mono ?_;rintro y w3 ⟨p3,x3,rfl,g9,g10,g11,g12,h3⟩;have c4:=Lh (median h3 cap p1 p2 p3 a b ⟨g1,g2⟩ ⟨g5,g6⟩ ⟨g9,g10⟩ hb hsz (by omega) (by omega));clear h3;go_wp2_with fail;refine c4.out.mono ?_;rintro y w4 ⟨p4,x4,rfl,g13,g14,g15,g16,h4⟩;have hcc:=h4.cell;have H4:=Lh h4;clear h4
  by_cases z0:x4=0
  ·subst z0;go_wp2;go_ret2;exact fin.out p4 0 w4 g13 g14 H4.out 1 (by omega)
  ·by_cases z12:x4=12
   ·subst z12;go_wp2;go_ret2;exact fin.out p4 12 w4 g13 g14 H4.out 2 (by omega)
   ·have b0:(x4 == 0)=false:=by simpa using z0
    have b12:(x4 == 12)=false:=by simpa using z12
    go_wp2;go_ret2;exact fin.out p4 x4 w4 g13 g14 H4.out 0 (by omega)
 ·clear hi hj hk;have c4:=Lh (median H0.out cap i j k a b i0 j0 k0 hb hsz (by omega) (by omega));go_enter func216,ntmps216;go_wp2_with fail;refine c4.out.mono ?_;rintro y w4 ⟨p4,x4,rfl,g13,g14,g15,g16,h4⟩;have hcc:=h4.cell;have H4:=Lh h4;clear h4
  by_cases z0:x4=0
  ·subst z0;go_wp2;go_ret2;exact fin.out p4 0 w4 g13 g14 H4.out 1 (by omega)
  ·have z12:x4≠12:=by omega
   have b0:(x4 == 0)=false:=by simpa using z0
   have b12:(x4 == 12)=false:=by simpa using z12
   go_wp2;go_ret2;exact fin.out p4 x4 w4 g13 g14 H4.out 0 (by omega)
end Go.Proofs.YtnpicaigdfnmfaaGreat.Srt
namespace Go.Proofs.YtnpicaigdfnmfaaGreat.Srt
open Go.RowKit Go.Sort
section
variable (p:Int→Bool) (d:Array Int)
theorem su_go(j i:Nat)(h:i≤j)(hp:p d[i]! =true):scanUp p d j i=scanUp p d j (i+1):=by rw[scanUp,if_pos (by rw[hp,Bool.and_true];exact decide_eq_true h)]
theorem su_end(j i:Nat)(h:¬i≤j∨p d[i]! =false):scanUp p d j i=i:=by
 rw[scanUp,if_neg];rw[Bool.and_eq_true,decide_eq_true_eq];rintro⟨h1,h2⟩;rcases h with h|h
 ·exact h h1
 ·rw[h] at h2;cases h2
theorem sn_go(i j:Nat)(h:i≤j)(h0:0<j)(hp:p d[j]! =true):scanDown p d i j=scanDown p d i (j - 1):=by
 cases j with
 |zero=>omega
 |succ k=>rw[scanDown,if_pos (by rw[hp,Bool.and_true];exact decide_eq_true h)];rfl
theorem sn_end(i j:Nat)(h:¬i≤j∨p d[j]! =false):scanDown p d i j=j:=by
 cases j with
 |zero=>rfl
 |succ k=>
  rw[scanDown,if_neg];rw[Bool.and_eq_true,decide_eq_true_eq];rintro⟨h1,h2⟩;rcases h with h|h
  ·exact h h1
  ·rw[h] at h2;cases h2
end
theorem pe_break(a i j i2 j2:Nat)(d:Array Int)(h1:i2=scanUp (fun x=> !ltInt d[a]! x) d j i)(h2:j2=scanDown (fun x=>ltInt d[a]! x) d i2 j)(h:j2<i2):partEqLoop ltInt a i j d=(i2,d):=by
 subst h1;subst h2;rw[partEqLoop_eq,if_pos h]
theorem pe_go(a i j i2 j2:Nat)(d:Array Int)(h1:i2=scanUp (fun x=> !ltInt d[a]! x) d j i)(h2:j2=scanDown (fun x=>ltInt d[a]! x) d i2 j)(h:¬j2<i2):partEqLoop ltInt a i j d=partEqLoop ltInt a (i2+1) (j2 - 1) (swp d i2 j2):=by
 subst h1;subst h2;rw[partEqLoop_eq,if_neg h]
theorem pl_break(a i j i2 j2:Nat)(d:Array Int)(h1:i2=scanUp (fun x=>ltInt x d[a]!) d j i)(h2:j2=scanDown (fun x=> !ltInt x d[a]!) d i2 j)(h:j2<i2):partLoop ltInt a i j d=(j2,d):=by
 subst h1;subst h2;rw[partLoop_eq,if_pos h]
theorem pl_go(a i j i2 j2:Nat)(d:Array Int)(h1:i2=scanUp (fun x=>ltInt x d[a]!) d j i)(h2:j2=scanDown (fun x=> !ltInt x d[a]!) d i2 j)(h:¬j2<i2):partLoop ltInt a i j d=partLoop ltInt a (i2+1) (j2 - 1) (swp d i2 j2):=by
 subst h1;subst h2;rw[partLoop_eq,if_neg h]
section
variable (W0:World) (blk off:Nat) (e:TypeId) (N:Nat) (dk:Array Int) (p:Int→Bool)
def upRel(j i:Nat)(vi:Value)(wr:World):Prop:=∃i':Nat,vi=.int .i64 i'∧i≤i'∧i'≤j+1∧SW W0 wr blk off e N dk∧scanUp p dk j i'=scanUp p dk j i
def dnRel(i2 j:Nat)(vj:Value)(wr:World):Prop:=∃j':Nat,vj=.int .i64 j'∧j'≤j∧i2≤j'+1∧SW W0 wr blk off e N dk∧scanDown p dk i2 j'=scanDown p dk i2 j
end
def peRel(W0:World)(blk off:Nat)(e:TypeId)(N:Nat)(d:Array Int)(a b:Nat)(D:Nat×Array Int)(vi vj:Value)(wr:World):Prop:=
 ∃(i j:Nat) (dk:Array Int),vi=.int .i64 i∧vj=.int .i64 j∧a<i∧i≤j+1∧j<b∧dk.size=d.size∧SW W0 wr blk off e N dk∧partEqLoop ltInt a i j dk=D
def plRel(W0:World)(blk off:Nat)(e:TypeId)(N:Nat)(d:Array Int)(a b:Nat)(D:Nat×Array Int)(vi vj:Value)(wr:World):Prop:=
 ∃(i j:Nat) (dk:Array Int),vi=.int .i64 i∧vj=.int .i64 j∧a<i∧i≤j+1∧j<b∧dk.size=d.size∧SW W0 wr blk off e N dk∧partLoop ltInt a i j dk=D
theorem partitionEqual_any{W0 w:World}{blk off:Nat}{e:TypeId}{N:Nat}{d:Array Int}(h:SW W0 w blk off e N d)(cap a b pivot:Nat)(hap:a≤pivot)(hpb:pivot<b)(hb:b≤d.size)(hsz:d.size<4611686018427387904):
  Calls Tryz.prog 220 #[.slice (some ⟨blk,off,none⟩) d.size cap,.int .i64 a,.int .i64 b,.int .i64 pivot] w fun x w'=>x=.returned (.int .i64 (Sort.partitionEqual ltInt d a b pivot).1)∧SW W0 w' blk off e N (Sort.partitionEqual ltInt d a b pivot).2:=by
 have H:=Lh h;generalize hn:d.size=n at*;have Hn:=Lh hn;obtain⟨G0,hG0⟩:∃G0:Nat→Int,∀t,G0 t=d[t]! :=⟨fun t=>d[t]!,fun _=>rfl⟩;have hc0:∀t,t<n→w.cell? ⟨blk,off+t,none⟩=some (.int .u32 (G0 t)):=fun t ht=>by rw[hG0];exact h.cells t (by omega)
 have hf0:∀t,t<n→w.frozen? ⟨blk,off+t,none⟩=false:=fun t ht=>h.free _
 obtain⟨v',hy'⟩:=cell?_setCell_some (w:=w) (p:=⟨blk,off+a,none⟩) (x:=.int .u32 (G0 pivot)) (q:=⟨blk,off+pivot,none⟩) (hc0 pivot (by omega));have hst:SW W0 (((w.drewN 1).setCell ⟨blk,off+a,none⟩ (.int .u32 (G0 pivot))).setCell ⟨blk,off+pivot,none⟩ (.int .u32 (G0 a))) blk off e N (swp d a pivot):=by rw[hG0,hG0];exact(h.drewN 1).swap a pivot (by omega) (by omega)
 have Hst:=Lh hst;clear h hn hG0 hst;have hD:Sort.partitionEqual ltInt d a b pivot=partEqLoop ltInt a (a+1) (b - 1) (swp d a pivot):=rfl;generalize Sort.partitionEqual ltInt d a b pivot=D at*;have HD:=Lh hD;clear hD;go_enter func220,ntmps220;go_wp2;go_region;go_wp2;go_loopw [9,10] (fun vi vj wr=>peRel W0 blk off e N d a b D vi vj wr) (fun vi vj _=>(intOf vj).toNat+1 - (intOf vi).toNat)
 case atStart=>exact⟨a+1,b - 1,swp d a pivot,by go_num,by go_num,by omega,by omega,by omega,size_swp _ _ _,Hst.out,HD.out.symm⟩
 case round=>
  clear hc0 hf0 hy' v' Hst HD;obtain⟨i,j,dk,rfl,rfl,hai,hij,hjb,hsk,hsw,heq⟩:=hrel
  rename World=>W1
  have hsk2:=hsk.trans Hn.out;have HSk:=Lh hsw;have Hsk:=Lh hsk;have Hsk2:=Lh hsk2;obtain⟨G,hG⟩:∃G:Nat→Int,∀t,G t=dk[t]! :=⟨fun t=>dk[t]!,fun _=>rfl⟩;have HG:=Lh hG;have HE:=Lh heq;clear hsk hsk2 hsw hG heq;go_wp2;go_loopw [9] (fun vi w1=>upRel W0 blk off e N dk (fun x=> !ltInt dk[a]! x) j i vi w1) (fun vi _=>j+1 - (intOf vi).toNat)
  case atStart=>exact⟨i,rfl,Nat.le_refl _,hij,HSk.out,rfl⟩
  case round=>
   obtain⟨i',rfl,hii,hij',hsw,hsc0⟩:=hrel;have hsc:=Lh hsc0;clear hsc0;have hcw:∀t,t<n→wr.cell? ⟨blk,off+t,none⟩=some (.int .u32 (G t)):=fun t ht=>by rw[HG.out];exact hsw.cells t (by rw[Hsk2.out];exact ht)
   have HS:=Lh hsw;clear hsw
   by_cases hle:i'≤j
   ·go_wp2_with fail;go_big_quiet (first|(go_at_call 219;refine Calls.quiet_of_same (less _ _ _)));go_wp2
    ·have ht:(!ltInt (G a) (G i'))=true:=by assumption
     go_roundw
     case rel=>exact⟨i'+1,by go_num,by omega,by omega,HS.out.drewN nq,(su_go (fun x=> !ltInt dk[a]! x) dk j i' hle (by rw[←HG.out,←HG.out];exact ht)).symm.trans hsc.out⟩
     case measure=>simp[intOf];omega
    ·have ht1:(!ltInt (G a) (G i'))=false:=by assumption
     have hi2:=Lh ((su_end (fun x=> !ltInt dk[a]! x) dk j i' (.inr (by rw[←HG.out,←HG.out];exact ht1))).symm.trans hsc.out);have HS1:=Lh (HS.out.drewN nq);clear hcw hsc HS;go_loopw [10] (fun vj w2=>dnRel W0 blk off e N dk (fun x=>ltInt dk[a]! x) i' j vj w2) (fun vj _=>(intOf vj).toNat)
     case atStart=>exact⟨j,rfl,Nat.le_refl _,hij',HS1.out,rfl⟩
     case round=>
      obtain⟨j',rfl,hjj,hij2,hsw,hsd0⟩:=hrel;have hsd:=Lh hsd0;clear hsd0;have hcw:∀t,t<n→wr.cell? ⟨blk,off+t,none⟩=some (.int .u32 (G t)):=fun t ht=>by rw[HG.out];exact hsw.cells t (by rw[Hsk2.out];exact ht)
      have HS:=Lh hsw;clear hsw
      by_cases hle2:i'≤j'
      ·go_wp2_with fail;go_big_quiet (first|(go_at_call 219;refine Calls.quiet_of_same (less _ _ _)));go_wp2
       ·have ht:ltInt (G a) (G j')=true:=by assumption
        go_roundw
        case rel=>exact⟨j' - 1,by go_num,by omega,by omega,HS.out.drewN nq,(sn_go (fun x=>ltInt dk[a]! x) dk i' j' hle2 (by omega) (by rw[←HG.out,←HG.out];exact ht)).symm.trans hsd.out⟩
        case measure=>simp[intOf];omega
       ·have ht:ltInt (G a) (G j')=false:=by assumption
        have hne:i'≠j':=by
         intro g;rw[g] at ht1;rw[ht] at ht1;cases ht1
        have hj2:=Lh ((sn_end (fun x=>ltInt dk[a]! x) dk i' j' (.inr (by rw[←HG.out,←HG.out];exact ht))).symm.trans hsd.out);clear hsd ht ht1;generalize hW3:wr.drewN nq=W3;have H3:Hid (SW W0 W3 blk off e N dk):=Lh (by rw[←hW3];exact HS.out.drewN nq);have hc3:∀t,t<n→W3.cell? ⟨blk,off+t,none⟩=some (.int .u32 (G t)):=fun t ht=>by rw[HG.out];exact H3.out.cells t (by rw[Hsk2.out];exact ht)
        have hf3:∀t,t<n→W3.frozen? ⟨blk,off+t,none⟩=false:=fun t ht=>H3.out.free _
        clear hW3 hcw HS;go_wp2;go_region
        all_goals go_wp2
        go_roundw
        case rel=>exact⟨i'+1,j' - 1,swp dk i' j',by go_num,by go_num,by omega,by omega,by omega,by rw[size_swp];exact Hsk.out,by rw[HG.out,HG.out];exact((H3.out.drewN 1).swap i' j' (by rw[Hsk2.out];omega) (by rw[Hsk2.out];omega)),by rw[←HE.out,pe_go a i j i' j' dk hi2.out hj2.out (by omega)]⟩
        case measure=>simp[intOf];omega
      ·go_wp2_with fail;go_big_quiet (first|(go_at_call 219;refine Calls.quiet_of_same (less _ _ _)));have hj2:=Lh ((sn_end (fun x=>ltInt dk[a]! x) dk i' j' (.inl hle2)).symm.trans hsd.out);clear hsd;generalize hW3:wr.drewN nq=W3;have H3:Hid (SW W0 W3 blk off e N dk):=Lh (by rw[←hW3];exact HS.out.drewN nq);clear hW3 hcw HS;go_wp2;go_ret;rw[←HE.out,pe_break a i j i' j' dk hi2.out hj2.out (by omega)];exact⟨rfl,H3.out⟩
   ·go_wp2_with fail;go_big_quiet (first|(go_at_call 219;refine Calls.quiet_of_same (less _ _ _)));go_wp2;have hi2:=Lh ((su_end (fun x=> !ltInt dk[a]! x) dk j i' (.inl hle)).symm.trans hsc.out);have HS1:=Lh (HS.out.drewN nq);clear hcw hsc HS;go_loopw [10] (fun vj w2=>dnRel W0 blk off e N dk (fun x=>ltInt dk[a]! x) i' j vj w2) (fun vj _=>(intOf vj).toNat)
    case atStart=>exact⟨j,rfl,Nat.le_refl _,hij',HS1.out,rfl⟩
    case round=>
     obtain⟨j',rfl,hjj,hij2,hsw,hsd0⟩:=hrel;have hsd:=Lh hsd0;clear hsd0;have hcw:∀t,t<n→wr.cell? ⟨blk,off+t,none⟩=some (.int .u32 (G t)):=fun t ht=>by rw[HG.out];exact hsw.cells t (by rw[Hsk2.out];exact ht)
     have HS:=Lh hsw;clear hsw;have hle2:¬i'≤j':=by omega
     go_wp2_with fail;go_big_quiet (first|(go_at_call 219;refine Calls.quiet_of_same (less _ _ _)));have hj2:=Lh ((sn_end (fun x=>ltInt dk[a]! x) dk i' j' (.inl hle2)).symm.trans hsd.out);clear hsd;generalize hW3:wr.drewN nq=W3;have H3:Hid (SW W0 W3 blk off e N dk):=Lh (by rw[←hW3];exact HS.out.drewN nq);clear hW3 hcw HS;go_wp2;go_ret;rw[←HE.out,pe_break a i j i' j' dk hi2.out hj2.out (by omega)];exact⟨rfl,H3.out⟩
def PT(W0:World)(blk off:Nat)(e:TypeId)(N:Nat)(D:Nat×Array Int)(a:Nat)(x:Ending)(w':World):Prop:=
 ∃ap:Bool,x=.returned (.tuple #[.int .i64 D.1,.bool ap])∧SW W0 w' blk off e N (swp D.2 D.1 a)
theorem partition_any{W0 w:World}{blk off:Nat}{e:TypeId}{N:Nat}{d:Array Int}(h:SW W0 w blk off e N d)(cap a b pivot:Nat)(hap:a≤pivot)(hpb:pivot<b)(hb:b≤d.size)(hsz:d.size<4611686018427387904):
  Calls Tryz.prog 221 #[.slice (some ⟨blk,off,none⟩) d.size cap,.int .i64 a,.int .i64 b,.int .i64 pivot] w (PT W0 blk off e N (partLoop ltInt a (a+1) (b - 1) (swp d a pivot)) a):=by
 have H:=Lh h;generalize hn:d.size=n at*;have Hn:=Lh hn;obtain⟨G0,hG0⟩:∃G0:Nat→Int,∀t,G0 t=d[t]! :=⟨fun t=>d[t]!,fun _=>rfl⟩;have hc0:∀t,t<n→w.cell? ⟨blk,off+t,none⟩=some (.int .u32 (G0 t)):=fun t ht=>by rw[hG0];exact h.cells t (by omega)
 have hf0:∀t,t<n→w.frozen? ⟨blk,off+t,none⟩=false:=fun t ht=>h.free _
 obtain⟨v',hy'⟩:=cell?_setCell_some (w:=w) (p:=⟨blk,off+a,none⟩) (x:=.int .u32 (G0 pivot)) (q:=⟨blk,off+pivot,none⟩) (hc0 pivot (by omega));have hst:SW W0 (((w.drewN 1).setCell ⟨blk,off+a,none⟩ (.int .u32 (G0 pivot))).setCell ⟨blk,off+pivot,none⟩ (.int .u32 (G0 a))) blk off e N (swp d a pivot):=by rw[hG0,hG0];exact(h.drewN 1).swap a pivot (by omega) (by omega)
 have Hst:=Lh hst;clear h hn hG0 hst;generalize hD:partLoop ltInt a (a+1) (b - 1) (swp d a pivot)=D at*;have HD:=Lh hD;clear hD;go_enter func221,ntmps221;go_wp2;go_region;go_wp2;obtain⟨i,j,dk,hi,hj,hai,hij,hjb,hsk,hsw,heq⟩:plRel W0 blk off e N d a b D (.int .i64 ((a:Int)+1)) (.int .i64 ((b:Int) - 1)) _:=⟨a+1,b - 1,swp d a pivot,by go_num,by go_num,by omega,by omega,by omega,size_swp _ _ _,Hst.out,HD.out⟩;rw[hi,hj];clear hc0 hf0 hy' v' Hst HD hi hj;have hsk2:=hsk.trans Hn.out;have HSk:=Lh hsw;have Hsk:=Lh hsk;have Hsk2:=Lh hsk2;obtain⟨G,hG⟩:∃G:Nat→Int,∀t,G t=dk[t]! :=⟨fun t=>dk[t]!,fun _=>rfl⟩;have HG:=Lh hG;have HE:=Lh heq;clear hsk hsk2 hsw hG heq;go_loopw [10] (fun vi w1=>upRel W0 blk off e N dk (fun x=>ltInt x dk[a]!) j i vi w1) (fun vi _=>j+1 - (intOf vi).toNat)
 case atStart=>exact⟨i,rfl,Nat.le_refl _,hij,HSk.out,rfl⟩
 case round=>
  obtain⟨i',rfl,hii,hij',hsw,hsc0⟩:=hrel;have hsc:=Lh hsc0;clear hsc0;have hcw:∀t,t<n→wr.cell? ⟨blk,off+t,none⟩=some (.int .u32 (G t)):=fun t ht=>by rw[HG.out];exact hsw.cells t (by rw[Hsk2.out];exact ht)
  have HS:=Lh hsw;clear hsw
  by_cases hle:i'≤j
  ·go_wp2_with fail;go_big_quiet (first|(go_at_call 219;refine Calls.quiet_of_same (less _ _ _)));go_wp2
   ·have ht:ltInt (G i') (G a)=true:=by assumption
    go_roundw
    case rel=>exact⟨i'+1,by go_num,by omega,by omega,HS.out.drewN nq,(su_go (fun x=>ltInt x dk[a]!) dk j i' hle (by rw[←HG.out,←HG.out];exact ht)).symm.trans hsc.out⟩
    case measure=>simp[intOf];omega
   ·have ht1:ltInt (G i') (G a)=false:=by assumption
    have hi2:=Lh ((su_end (fun x=>ltInt x dk[a]!) dk j i' (.inr (by rw[←HG.out,←HG.out];exact ht1))).symm.trans hsc.out);have HS1:=Lh (HS.out.drewN nq);clear hcw hsc HS;go_loopw [11] (fun vj w2=>dnRel W0 blk off e N dk (fun x=> !ltInt x dk[a]!) i' j vj w2) (fun vj _=>(intOf vj).toNat)
    case atStart=>exact⟨j,rfl,Nat.le_refl _,hij',HS1.out,rfl⟩
    case round=>
     obtain⟨j',rfl,hjj,hij2,hsw,hsd0⟩:=hrel;have hsd:=Lh hsd0;clear hsd0;have hcw:∀t,t<n→wr.cell? ⟨blk,off+t,none⟩=some (.int .u32 (G t)):=fun t ht=>by rw[HG.out];exact hsw.cells t (by rw[Hsk2.out];exact ht)
     have HS:=Lh hsw;clear hsw
     by_cases hle2:i'≤j'
     ·go_wp2_with fail;go_big_quiet (first|(go_at_call 219;refine Calls.quiet_of_same (less _ _ _)));go_wp2
      ·have ht:(!ltInt (G j') (G a))=true:=by assumption
       go_roundw
       case rel=>exact⟨j' - 1,by go_num,by omega,by omega,HS.out.drewN nq,(sn_go (fun x=> !ltInt x dk[a]!) dk i' j' hle2 (by omega) (by rw[←HG.out,←HG.out];exact ht)).symm.trans hsd.out⟩
       case measure=>simp[intOf];omega
      ·have ht:(!ltInt (G j') (G a))=false:=by assumption
       have hne:i'≠j':=by
        intro g;rw[g] at ht1;rw[ht1] at ht;cases ht
       have hj2:=Lh ((sn_end (fun x=> !ltInt x dk[a]!) dk i' j' (.inr (by rw[←HG.out,←HG.out];exact ht))).symm.trans hsd.out);clear hsd ht ht1;generalize hW3:wr.drewN nq=W3;have H3:Hid (SW W0 W3 blk off e N dk):=Lh (by rw[←hW3];exact HS.out.drewN nq);have hc3:∀t,t<n→W3.cell? ⟨blk,off+t,none⟩=some (.int .u32 (G t)):=fun t ht=>by rw[HG.out];exact H3.out.cells t (by rw[Hsk2.out];exact ht)
       have hf3:∀t,t<n→W3.frozen? ⟨blk,off+t,none⟩=false:=fun t ht=>H3.out.free _
       clear hW3 hcw HS;go_wp2;go_region
       all_goals go_wp2
       obtain⟨i0,j0,dk0,hi0,hj0,hai0,hij0,hjb0,hsk0,hsw0,heq0⟩:plRel W0 blk off e N d a b D (.int .i64 ((i':Int)+1)) (.int .i64 ((j':Int) - 1)) (((W3.drewN 1).setCell ⟨blk,off+i',none⟩ (.int .u32 (G j'))).setCell ⟨blk,off+j',none⟩ (.int .u32 (G i'))):=⟨i'+1,j' - 1,swp dk i' j',by go_num,by go_num,by omega,by omega,by omega,by rw[size_swp];exact Hsk.out,by rw[HG.out,HG.out];exact((H3.out.drewN 1).swap i' j' (by rw[Hsk2.out];omega) (by rw[Hsk2.out];omega)),by rw[←HE.out,pl_go a i j i' j' dk hi2.out hj2.out (by omega)]⟩;rw[hi0,hj0];clear HE H3 hc3 hf3 hi2 hj2 HG HSk Hsk Hsk2 hne hle hle2 hi0 hj0 HS1;clear hii hij' hjj hij2 hai hij hjb;go_loopw [10,11] (fun vi vj wr=>plRel W0 blk off e N d a b D vi vj wr) (fun vi vj _=>(intOf vj).toNat+1 - (intOf vi).toNat)
       case atStart=>exact⟨i0,j0,dk0,rfl,rfl,hai0,hij0,hjb0,hsk0,hsw0,heq0⟩
       case round=>
        clear hai0 hij0 hjb0 hsk0 hsw0 heq0;obtain⟨i,j,dk,rfl,rfl,hai,hij,hjb,hsk,hsw,heq⟩:=hrel
        rename World=>W1
        have hsk2:=hsk.trans Hn.out;have HSk:=Lh hsw;have Hsk:=Lh hsk;have Hsk2:=Lh hsk2;obtain⟨G,hG⟩:∃G:Nat→Int,∀t,G t=dk[t]! :=⟨fun t=>dk[t]!,fun _=>rfl⟩;have HG:=Lh hG;have HE:=Lh heq;clear hsk hsk2 hsw hG heq;go_wp2;go_loopw [10] (fun vi w1=>upRel W0 blk off e N dk (fun x=>ltInt x dk[a]!) j i vi w1) (fun vi _=>j+1 - (intOf vi).toNat)
        case atStart=>exact⟨i,rfl,Nat.le_refl _,hij,HSk.out,rfl⟩
        case round=>
         obtain⟨i',rfl,hii,hij',hsw,hsc0⟩:=hrel;have hsc:=Lh hsc0;clear hsc0;have hcw:∀t,t<n→wr.cell? ⟨blk,off+t,none⟩=some (.int .u32 (G t)):=fun t ht=>by rw[HG.out];exact hsw.cells t (by rw[Hsk2.out];exact ht)
         have HS:=Lh hsw;clear hsw
         by_cases hle:i'≤j
         ·go_wp2_with fail;go_big_quiet (first|(go_at_call 219;refine Calls.quiet_of_same (less _ _ _)));go_wp2
          ·have ht:ltInt (G i') (G a)=true:=by assumption
           go_roundw
           case rel=>exact⟨i'+1,by go_num,by omega,by omega,HS.out.drewN nq,(su_go (fun x=>ltInt x dk[a]!) dk j i' hle (by rw[←HG.out,←HG.out];exact ht)).symm.trans hsc.out⟩
           case measure=>simp[intOf];omega
          ·have ht1:ltInt (G i') (G a)=false:=by assumption
           have hi2:=Lh ((su_end (fun x=>ltInt x dk[a]!) dk j i' (.inr (by rw[←HG.out,←HG.out];exact ht1))).symm.trans hsc.out);have HS1:=Lh (HS.out.drewN nq);clear hcw hsc HS;go_loopw [11] (fun vj w2=>dnRel W0 blk off e N dk (fun x=> !ltInt x dk[a]!) i' j vj w2) (fun vj _=>(intOf vj).toNat)
           case atStart=>exact⟨j,rfl,Nat.le_refl _,hij',HS1.out,rfl⟩
           case round=>
            obtain⟨j',rfl,hjj,hij2,hsw,hsd0⟩:=hrel;have hsd:=Lh hsd0;clear hsd0;have hcw:∀t,t<n→wr.cell? ⟨blk,off+t,none⟩=some (.int .u32 (G t)):=fun t ht=>by rw[HG.out];exact hsw.cells t (by rw[Hsk2.out];exact ht)
            have HS:=Lh hsw;clear hsw
            by_cases hle2:i'≤j'
            ·go_wp2_with fail;go_big_quiet (first|(go_at_call 219;refine Calls.quiet_of_same (less _ _ _)));go_wp2
             ·have ht:(!ltInt (G j') (G a))=true:=by assumption
              go_roundw
              case rel=>exact⟨j' - 1,by go_num,by omega,by omega,HS.out.drewN nq,(sn_go (fun x=> !ltInt x dk[a]!) dk i' j' hle2 (by omega) (by rw[←HG.out,←HG.out];exact ht)).symm.trans hsd.out⟩
              case measure=>simp[intOf];omega
             ·have ht:(!ltInt (G j') (G a))=false:=by assumption
              have hne:i'≠j':=by
               intro g;rw[g] at ht1;rw[ht1] at ht;cases ht
              have hj2:=Lh ((sn_end (fun x=> !ltInt x dk[a]!) dk i' j' (.inr (by rw[←HG.out,←HG.out];exact ht))).symm.trans hsd.out);clear hsd ht ht1;generalize hW3:wr.drewN nq=W3;have H3:Hid (SW W0 W3 blk off e N dk):=Lh (by rw[←hW3];exact HS.out.drewN nq);have hc3:∀t,t<n→W3.cell? ⟨blk,off+t,none⟩=some (.int .u32 (G t)):=fun t ht=>by rw[HG.out];exact H3.out.cells t (by rw[Hsk2.out];exact ht)
              have hf3:∀t,t<n→W3.frozen? ⟨blk,off+t,none⟩=false:=fun t ht=>H3.out.free _
              clear hW3 hcw HS;go_wp2;go_region
              all_goals go_wp2
              go_roundw
              case rel=>exact⟨i'+1,j' - 1,swp dk i' j',by go_num,by go_num,by omega,by omega,by omega,by rw[size_swp];exact Hsk.out,by rw[HG.out,HG.out];exact((H3.out.drewN 1).swap i' j' (by rw[Hsk2.out];omega) (by rw[Hsk2.out];omega)),by rw[←HE.out,pl_go a i j i' j' dk hi2.out hj2.out (by omega)]⟩
              case measure=>simp[intOf];omega
            ·go_wp2_with fail;go_big_quiet (first|(go_at_call 219;refine Calls.quiet_of_same (less _ _ _)));have hj2:=Lh ((sn_end (fun x=> !ltInt x dk[a]!) dk i' j' (.inl hle2)).symm.trans hsd.out);clear hsd;generalize hW3:wr.drewN nq=W3;have H3:Hid (SW W0 W3 blk off e N dk):=Lh (by rw[←hW3];exact HS.out.drewN nq);clear hW3 hcw HS;have hc3:∀t,t<n→W3.cell? ⟨blk,off+t,none⟩=some (.int .u32 (G t)):=fun t ht=>by rw[HG.out];exact H3.out.cells t (by rw[Hsk2.out];exact ht)
             obtain⟨v3,hy3⟩:=cell?_setCell_some (w:=W3) (p:=⟨blk,off+j',none⟩) (x:=.int .u32 (G a)) (q:=⟨blk,off+a,none⟩) (hc3 a (by omega));have hf3:∀t,t<n→W3.frozen? ⟨blk,off+t,none⟩=false:=fun t ht=>H3.out.free _
             go_wp2;go_region
             all_goals go_wp2
             go_ret2;rw[←HE.out,pl_break a i j i' j' dk hi2.out hj2.out (by omega)];exact⟨_,rfl,by rw[HG.out,HG.out];exact(H3.out.drewN 1).swap j' a (by rw[Hsk2.out];omega) (by rw[Hsk2.out];omega)⟩
         ·go_wp2_with fail;go_big_quiet (first|(go_at_call 219;refine Calls.quiet_of_same (less _ _ _)));go_wp2;have hi2:=Lh ((su_end (fun x=>ltInt x dk[a]!) dk j i' (.inl hle)).symm.trans hsc.out);have HS1:=Lh (HS.out.drewN nq);clear hcw hsc HS;go_loopw [11] (fun vj w2=>dnRel W0 blk off e N dk (fun x=> !ltInt x dk[a]!) i' j vj w2) (fun vj _=>(intOf vj).toNat)
          case atStart=>exact⟨j,rfl,Nat.le_refl _,hij',HS1.out,rfl⟩
          case round=>
           obtain⟨j',rfl,hjj,hij2,hsw,hsd0⟩:=hrel;have hsd:=Lh hsd0;clear hsd0;have hcw:∀t,t<n→wr.cell? ⟨blk,off+t,none⟩=some (.int .u32 (G t)):=fun t ht=>by rw[HG.out];exact hsw.cells t (by rw[Hsk2.out];exact ht)
           have HS:=Lh hsw;clear hsw;have hle2:¬i'≤j':=by omega
           go_wp2_with fail;go_big_quiet (first|(go_at_call 219;refine Calls.quiet_of_same (less _ _ _)));have hj2:=Lh ((sn_end (fun x=> !ltInt x dk[a]!) dk i' j' (.inl hle2)).symm.trans hsd.out);clear hsd;generalize hW3:wr.drewN nq=W3;have H3:Hid (SW W0 W3 blk off e N dk):=Lh (by rw[←hW3];exact HS.out.drewN nq);clear hW3 hcw HS;have hc3:∀t,t<n→W3.cell? ⟨blk,off+t,none⟩=some (.int .u32 (G t)):=fun t ht=>by rw[HG.out];exact H3.out.cells t (by rw[Hsk2.out];exact ht)
           obtain⟨v3,hy3⟩:=cell?_setCell_some (w:=W3) (p:=⟨blk,off+j',none⟩) (x:=.int .u32 (G a)) (q:=⟨blk,off+a,none⟩) (hc3 a (by omega));have hf3:∀t,t<n→W3.frozen? ⟨blk,off+t,none⟩=false:=fun t ht=>H3.out.free _
           go_wp2;go_region
           all_goals go_wp2
           go_ret2;rw[←HE.out,pl_break a i j i' j' dk hi2.out hj2.out (by omega)];exact⟨_,rfl,by rw[HG.out,HG.out];exact(H3.out.drewN 1).swap j' a (by rw[Hsk2.out];omega) (by rw[Hsk2.out];omega)⟩
     ·go_wp2_with fail;go_big_quiet (first|(go_at_call 219;refine Calls.quiet_of_same (less _ _ _)));have hj2:=Lh ((sn_end (fun x=> !ltInt x dk[a]!) dk i' j' (.inl hle2)).symm.trans hsd.out);clear hsd;generalize hW3:wr.drewN nq=W3;have H3:Hid (SW W0 W3 blk off e N dk):=Lh (by rw[←hW3];exact HS.out.drewN nq);clear hW3 hcw HS;have hc3:∀t,t<n→W3.cell? ⟨blk,off+t,none⟩=some (.int .u32 (G t)):=fun t ht=>by rw[HG.out];exact H3.out.cells t (by rw[Hsk2.out];exact ht)
      obtain⟨v3,hy3⟩:=cell?_setCell_some (w:=W3) (p:=⟨blk,off+j',none⟩) (x:=.int .u32 (G a)) (q:=⟨blk,off+a,none⟩) (hc3 a (by omega));have hf3:∀t,t<n→W3.frozen? ⟨blk,off+t,none⟩=false:=fun t ht=>H3.out.free _
      go_wp2;go_region
      all_goals go_wp2
      go_ret2;rw[←HE.out,pl_break a i j i' j' dk hi2.out hj2.out (by omega)];exact⟨_,rfl,by rw[HG.out,HG.out];exact(H3.out.drewN 1).swap j' a (by rw[Hsk2.out];omega) (by rw[Hsk2.out];omega)⟩
  ·go_wp2_with fail;go_big_quiet (first|(go_at_call 219;refine Calls.quiet_of_same (less _ _ _)));go_wp2;have hi2:=Lh ((su_end (fun x=>ltInt x dk[a]!) dk j i' (.inl hle)).symm.trans hsc.out);have HS1:=Lh (HS.out.drewN nq);clear hcw hsc HS;go_loopw [11] (fun vj w2=>dnRel W0 blk off e N dk (fun x=> !ltInt x dk[a]!) i' j vj w2) (fun vj _=>(intOf vj).toNat)
   case atStart=>exact⟨j,rfl,Nat.le_refl _,hij',HS1.out,rfl⟩
   case round=>
    obtain⟨j',rfl,hjj,hij2,hsw,hsd0⟩:=hrel;have hsd:=Lh hsd0;clear hsd0;have hcw:∀t,t<n→wr.cell? ⟨blk,off+t,none⟩=some (.int .u32 (G t)):=fun t ht=>by rw[HG.out];exact hsw.cells t (by rw[Hsk2.out];exact ht)
    have HS:=Lh hsw;clear hsw;have hle2:¬i'≤j':=by omega
    go_wp2_with fail;go_big_quiet (first|(go_at_call 219;refine Calls.quiet_of_same (less _ _ _)));have hj2:=Lh ((sn_end (fun x=> !ltInt x dk[a]!) dk i' j' (.inl hle2)).symm.trans hsd.out);clear hsd;generalize hW3:wr.drewN nq=W3;have H3:Hid (SW W0 W3 blk off e N dk):=Lh (by rw[←hW3];exact HS.out.drewN nq);clear hW3 hcw HS;have hc3:∀t,t<n→W3.cell? ⟨blk,off+t,none⟩=some (.int .u32 (G t)):=fun t ht=>by rw[HG.out];exact H3.out.cells t (by rw[Hsk2.out];exact ht)
    obtain⟨v3,hy3⟩:=cell?_setCell_some (w:=W3) (p:=⟨blk,off+j',none⟩) (x:=.int .u32 (G a)) (q:=⟨blk,off+a,none⟩) (hc3 a (by omega));have hf3:∀t,t<n→W3.frozen? ⟨blk,off+t,none⟩=false:=fun t ht=>H3.out.free _
    go_wp2;go_region
    all_goals go_wp2
    go_ret2;rw[←HE.out,pl_break a i j i' j' dk hi2.out hj2.out (by omega)];exact⟨_,rfl,by rw[HG.out,HG.out];exact(H3.out.drewN 1).swap j' a (by rw[Hsk2.out];omega) (by rw[Hsk2.out];omega)⟩
end Go.Proofs.YtnpicaigdfnmfaaGreat.Srt
namespace Go.Proofs.YtnpicaigdfnmfaaGreat.Srt
open Go.RowKit Go.Sort
section
variable (d:Array Int)
theorem sc_go(b i:Nat)(h:i<b)(hl:ltInt d[i]! d[i - 1]! =false):scanSorted ltInt d b i=scanSorted ltInt d b (i+1):=by rw[scanSorted,if_pos (by rw[hl];simpa using h)]
theorem sc_end(b i:Nat)(h:¬i<b∨ltInt d[i]! d[i - 1]! =true):scanSorted ltInt d b i=i:=by
 rw[scanSorted,if_neg];rw[Bool.and_eq_true,decide_eq_true_eq];rintro⟨h1,h2⟩;rcases h with h|h
 ·exact h h1
 ·rw[h] at h2;cases h2
theorem dn_go(j:Nat)(h0:0<j)(hl:ltInt d[j]! d[j - 1]! =true):shiftDown ltInt j d=shiftDown ltInt (j - 1) (swp d j (j - 1)):=by
 cases j with
 |zero=>omega
 |succ k=>
  have hl':ltInt d[k+1]! d[k]! =true:=hl;rw[shiftDown,if_neg (by rw[hl'];simp)];rfl
theorem dn_end(j:Nat)(h:j=0∨ltInt d[j]! d[j - 1]! =false):shiftDown ltInt j d=d:=by
 cases j with
 |zero=>rfl
 |succ k=>
  rcases h with h|h
  ·omega
  ·have hl':ltInt d[k+1]! d[k]! =false:=h;rw[shiftDown,if_pos (by rw[hl'];rfl)]
theorem up_go(b j:Nat)(h:j<b)(hl:ltInt d[j]! d[j - 1]! =true):shiftUp ltInt b j d=shiftUp ltInt b (j+1) (swp d j (j - 1)):=by rw[shiftUp,if_pos h,if_neg (by rw[hl];simp)]
theorem up_end(b j:Nat)(h:¬j<b∨ltInt d[j]! d[j - 1]! =false):shiftUp ltInt b j d=d:=by
 rw[shiftUp]
 by_cases g:j<b
 ·rw[if_pos g,if_pos];rcases h with h|h
  ·exact absurd g h
  ·rw[h];rfl
 ·rw[if_neg g]
end
theorem pi_yes(a b s i k:Nat)(d:Array Int)(h:k=scanSorted ltInt d b i)(hk:k=b):partialIns ltInt a b (s+1) i d=(d,true):=by rw[partialIns_succ,←h,if_pos hk]
theorem pi_no(a b s i k:Nat)(d:Array Int)(h:k=scanSorted ltInt d b i)(hk:k≠b)(h50:b - a<50):partialIns ltInt a b (s+1) i d=(d,false):=by rw[partialIns_succ,←h,if_neg hk,if_pos h50]
theorem pi_go(a b s i k:Nat)(d:Array Int)(h:k=scanSorted ltInt d b i)(hk:k≠b)(h50:¬b - a<50):partialIns ltInt a b (s+1) i d=partialIns ltInt a b s k (fixUp ltInt b k (fixDown ltInt a k (swp d k (k - 1)))):=by rw[partialIns_succ,←h,if_neg hk,if_neg h50]
section
variable (W0:World) (blk off:Nat) (e:TypeId) (N:Nat) (n:Nat)
def piRel(a b:Nat)(D:Array Int×Bool)(vi vj:Value)(wr:World):Prop:=
 ∃(s i:Nat) (dk:Array Int),vi=.int .i64 i∧vj=.int .i64 (5 - (s:Int))∧s≤5∧a<i∧i≤b∧dk.size=n∧SW W0 wr blk off e N dk∧partialIns ltInt a b s i dk=D
def scRel(dk:Array Int)(b i:Nat)(vi:Value)(wr:World):Prop:=∃k:Nat,vi=.int .i64 k∧i≤k∧k≤b∧SW W0 wr blk off e N dk∧scanSorted ltInt dk b k=scanSorted ltInt dk b i
def rowIs(D:Array Int)(wr:World):Prop:=∃dk:Array Int,dk.size=n∧SW W0 wr blk off e N dk∧dk=D
def dnRel'(D:Array Int)(i:Nat)(vj:Value)(wr:World):Prop:=∃(j:Nat) (dj:Array Int),vj=.int .i64 j∧j<i∧dj.size=n∧SW W0 wr blk off e N dj∧shiftDown ltInt j dj=D
def upRel'(D:Array Int)(i b:Nat)(vj:Value)(wr:World):Prop:=∃(j:Nat) (dj:Array Int),vj=.int .i64 j∧i<j∧j≤b∧dj.size=n∧SW W0 wr blk off e N dj∧shiftUp ltInt b j dj=D
end
theorem partialInsertionSort_any{W0 w:World}{blk off:Nat}{e:TypeId}{N:Nat}{d:Array Int}(h:SW W0 w blk off e N d)(cap a b:Nat)(hab:a<b)(hb:b≤d.size)(hsz:d.size<4611686018427387904):
  Calls Tryz.prog 218 #[.slice (some ⟨blk,off,none⟩) d.size cap,.int .i64 a,.int .i64 b] w fun x w'=>x=.returned (.bool (Sort.partialInsertionSort ltInt d a b).2)∧SW W0 w' blk off e N (Sort.partialInsertionSort ltInt d a b).1:=by
 have H:=Lh h;have hD:partialIns ltInt a b 5 (a+1) d=Sort.partialInsertionSort ltInt d a b:=rfl;generalize Sort.partialInsertionSort ltInt d a b=D at*;generalize hn:d.size=n at*;have Hn:=Lh hn;have HD:=Lh hD;clear h hn hD;go_enter func218,ntmps218;go_wp2;go_loopw [7,8,9,10] (fun vi vj _ _ wr=>piRel W0 blk off e N n a b D vi vj wr) (fun _ vj _ _ _=>(5 - intOf vj).toNat)
 case atStart=>exact⟨5,a+1,d,by go_num,by go_num,by omega,by omega,by omega,Hn.out,H.out,HD.out⟩
 case round=>
  obtain⟨s,i,dk,rfl,rfl,hs,hai,hib,hsk,hsw,heq⟩:=hrel;have HSk:=Lh hsw;have Hsk:=Lh hsk;have HE:=Lh heq;clear hsk hsw heq;cases s with
  |zero=>
   go_wp2;go_ret;rw[←HE.out];exact⟨rfl,HSk.out⟩
  |succ s=>
   rw[show(5:Int) - ((s+1:Nat):Int)=5 - ((s:Int)+1) by omega];obtain⟨G,hG⟩:∃G:Nat→Int,∀t,G t=dk[t]! :=⟨fun t=>dk[t]!,fun _=>rfl⟩;have HG:=Lh hG;clear hG;have hs5:decide ((5:Int) - ((s:Int)+1)<5)=true:=decide_eq_true (by omega);go_wp2
   rename World=>W1
   go_loopw [7] (fun vi wr=>scRel W0 blk off e N dk b i vi wr) (fun vi _=>b - (intOf vi).toNat)
   case atStart=>exact⟨i,rfl,Nat.le_refl _,hib,HSk.out,rfl⟩
   case round=>
    obtain⟨k,rfl,hik,hkb,hsw,hsc0⟩:=hrel;have hsc:=Lh hsc0;clear hsc0;have hcw:∀t,t<n→wr.cell? ⟨blk,off+t,none⟩=some (.int .u32 (G t)):=fun t ht=>by rw[HG.out];exact hsw.cells t (by rw[Hsk.out];exact ht)
    have HS:=Lh hsw;clear hsw
    by_cases hkb2:k<b
    ·by_cases h50:b - a<50
     ·have h50z:(b:Int) - (a:Int)<50:=by omega
      go_wp2_with fail;go_big_quiet (first|(go_at_call 219;refine Calls.quiet_of_same (less _ _ _)));go_wp2
      ·have ht:ltInt (G k) (G (k - 1))=false:=by
        have:(!ltInt (G k) (G (k - 1)))=true:=by assumption
        simpa using this
       go_roundw
       case rel=>exact⟨k+1,by go_num,by omega,by omega,HS.out.drewN nq,(sc_go dk b k hkb2 (by rw[←HG.out,←HG.out];exact ht)).symm.trans hsc.out⟩
       case measure=>simp[intOf];omega
      ·have ht:ltInt (G k) (G (k - 1))=true:=by
        have:(!ltInt (G k) (G (k - 1)))=false:=by assumption
        simpa using this
       have hk2:=Lh ((sc_end dk b k (.inr (by rw[←HG.out,←HG.out];exact ht))).symm.trans hsc.out);go_ret;rw[←HE.out,pi_no a b s i k dk hk2.out (by omega) h50];exact⟨rfl,HS.out.drewN nq⟩
     ·have h50z:decide ((b:Int) - (a:Int)<50)=false:=decide_eq_false (by omega);have h50y:¬(b:Int) - (a:Int)<50:=by omega
      go_wp2_with fail;go_big_quiet (first|(go_at_call 219;refine Calls.quiet_of_same (less _ _ _)));go_wp2
      ·have ht:ltInt (G k) (G (k - 1))=false:=by
        have:(!ltInt (G k) (G (k - 1)))=true:=by assumption
        simpa using this
       go_roundw
       case rel=>exact⟨k+1,by go_num,by omega,by omega,HS.out.drewN nq,(sc_go dk b k hkb2 (by rw[←HG.out,←HG.out];exact ht)).symm.trans hsc.out⟩
       case measure=>simp[intOf];omega
      ·have ht:ltInt (G k) (G (k - 1))=true:=by
        have:(!ltInt (G k) (G (k - 1)))=false:=by assumption
        simpa using this
       have hk2:=Lh ((sc_end dk b k (.inr (by rw[←HG.out,←HG.out];exact ht))).symm.trans hsc.out);generalize hW3:wr.drewN nq=W3;have H3:Hid (SW W0 W3 blk off e N dk):=Lh (by rw[←hW3];exact HS.out.drewN nq);have hc3:∀t,t<n→W3.cell? ⟨blk,off+t,none⟩=some (.int .u32 (G t)):=fun t ht=>by rw[HG.out];exact H3.out.cells t (by rw[Hsk.out];exact ht)
       have hf3:∀t,t<n→W3.frozen? ⟨blk,off+t,none⟩=false:=fun t ht=>H3.out.free _
       clear hW3 hcw HS ht hsc;go_wp2;go_region
       all_goals go_upto_if 61 with(fail)
       have hsp:rowIs W0 blk off e N n (swp dk k (k - 1)) (((W3.drewN 1).setCell ⟨blk,off+k,none⟩ (.int .u32 (G (k - 1)))).setCell ⟨blk,off+(k - 1),none⟩ (.int .u32 (G k))):=⟨swp dk k (k - 1),by rw[size_swp];exact Hsk.out,by rw[HG.out,HG.out];exact(H3.out.drewN 1).swap k (k - 1) (by rw[Hsk.out];omega) (by rw[Hsk.out];omega),rfl⟩;have Hsp:=Lh hsp;clear hsp;go_cut [9] (fun _ wx=>rowIs W0 blk off e N n (fixDown ltInt a k (swp dk k (k - 1))) wx)
       case first=>
        clear hc3 hf3;obtain⟨D1,hD1⟩:∃D1,fixDown ltInt a k (swp dk k (k - 1))=D1:=⟨_,rfl⟩;have HD1:=Lh hD1;obtain⟨dm,hsm,hwm,hdm⟩:=Hsp.out
        by_cases h2:2≤k - a
        ·have hF:shiftDown ltInt (k - 1) dm=D1:=by rw[←hD1,hdm];unfold fixDown;rw[if_pos h2]
         have HF:=Lh hF;have HM:=Lh hwm;have Hsm:=Lh hsm;clear hD1 hsm hwm hdm hF;have h2z:(2:Int)≤(k:Int) - (a:Int):=by omega
         go_wp2_with fail;go_loopw [9] (fun vj wr=>dnRel' W0 blk off e N n D1 k vj wr) (fun vj _=>(intOf vj).toNat)
         case atStart=>exact⟨k - 1,dm,by go_num,by omega,Hsm.out,HM.out,HF.out⟩
         case round=>
          obtain⟨j,dj,rfl,hjk,hsj,hswj,hOj⟩:=hrel;have HSj:=Lh hswj;have Hsj:=Lh hsj;have HOj:=Lh hOj;obtain⟨Gj,hGj⟩:∃Gj:Nat→Int,∀t,Gj t=dj[t]! :=⟨fun t=>dj[t]!,fun _=>rfl⟩;have HGj:=Lh hGj;have hcj:∀t,t<n→wr.cell? ⟨blk,off+t,none⟩=some (.int .u32 (Gj t)):=fun t ht=>by rw[hGj];exact hswj.cells t (by rw[hsj];exact ht)
          have hfj:∀t,t<n→wr.frozen? ⟨blk,off+t,none⟩=false:=fun t ht=>hswj.free _
          clear hswj hsj hOj hGj
          by_cases hj0:0<j
          ·go_wp2_with fail;go_big_quiet (first|(go_at_call 219;refine Calls.quiet_of_same (less _ _ _)));go_wp2
           ·have hl:ltInt (Gj j) (Gj (j - 1))=false:=by
             have:(!ltInt (Gj j) (Gj (j - 1)))=true:=by assumption
             simpa using this
            go_meet
            case rel=>exact⟨dj,Hsj.out,HSj.out.drewN nq,by rw[HD1.out,←HOj.out,dn_end dj j (.inr (by rw[←HGj.out,←HGj.out];exact hl))]⟩
           ·have hl:ltInt (Gj j) (Gj (j - 1))=true:=by
             have:(!ltInt (Gj j) (Gj (j - 1)))=false:=by assumption
             simpa using this
            go_region
            all_goals go_wp2
            go_roundw
            case rel=>exact⟨j - 1,swp dj j (j - 1),by go_num,by omega,by rw[size_swp];exact Hsj.out,by rw[HGj.out,HGj.out];exact(HSj.out.drewN (nq+1)).swap j (j - 1) (by rw[Hsj.out];omega) (by rw[Hsj.out];omega),by rw[←HOj.out,dn_go dj j hj0 (by rw[←HGj.out,←HGj.out];exact hl)]⟩
            case measure=>simp[intOf];omega
          ·obtain rfl:j=0:=by omega
           go_wp2;go_meet
           case rel=>exact⟨dj,Hsj.out,HSj.out,by rw[HD1.out,←HOj.out,dn_end dj 0 (.inl rfl)]⟩
        ·have hF:dm=D1:=by rw[←hD1,hdm];unfold fixDown;rw[if_neg h2]
         have HF:=Lh hF;have HM:=Lh hwm;have Hsm:=Lh hsm;clear hD1 hsm hwm hdm hF;have h2z:¬(2:Int)≤(k:Int) - (a:Int):=by omega
         have h2y:decide ((2:Int)≤(k:Int) - (a:Int))=false:=decide_eq_false h2z;go_wp2_with fail;go_meet
         case rel=>exact⟨dm,Hsm.out,HM.out,HF.out.trans HD1.out.symm⟩
       case rest=>
        clear hc3 hf3 Hsp;have Hcut:=Lh hcut;clear hcut
        all_goals
         obtain⟨D2,hD2⟩:∃D2,fixUp ltInt b k (fixDown ltInt a k (swp dk k (k - 1)))=D2:=⟨_,rfl⟩;have fin:∀(dj:Array Int) (W:World),dj.size=n→SW W0 W blk off e N dj→dj=D2→piRel W0 blk off e N n a b D (.int .i64 k) (.int .i64 (5 - ((s:Int)+1)+1)) W:=fun dj W g1 g2 g3=>⟨s,k,dj,rfl,by congr 1;omega,by omega,by omega,by omega,g1,g2,by rw[←HE.out,pi_go a b s i k dk hk2.out (by omega) h50,hD2,g3]⟩
         have Fin:=Lh fin;clear fin;obtain⟨dm,hsm,hwm,hdm⟩:=Hcut.out
         by_cases h2:2≤b - k
         ·have hF:shiftUp ltInt b (k+1) dm=D2:=by rw[←hD2,←hdm];unfold fixUp;rw[if_pos h2]
          have HF:=Lh hF;have HM:=Lh hwm;have Hsm:=Lh hsm;clear hD2 hsm hwm hdm hF;have h2z:(2:Int)≤(b:Int) - (k:Int):=by omega
          go_wp2_with fail;go_loopw [10] (fun vj wr=>upRel' W0 blk off e N n D2 k b vj wr) (fun vj _=>b - (intOf vj).toNat)
          case atStart=>exact⟨k+1,dm,by go_num,by omega,by omega,Hsm.out,HM.out,HF.out⟩
          case round=>
           obtain⟨j,dj,rfl,hkj,hjb,hsj,hswj,hOj⟩:=hrel;have HSj:=Lh hswj;have Hsj:=Lh hsj;have HOj:=Lh hOj;obtain⟨Gj,hGj⟩:∃Gj:Nat→Int,∀t,Gj t=dj[t]! :=⟨fun t=>dj[t]!,fun _=>rfl⟩;have HGj:=Lh hGj;have hcj:∀t,t<n→wr.cell? ⟨blk,off+t,none⟩=some (.int .u32 (Gj t)):=fun t ht=>by rw[hGj];exact hswj.cells t (by rw[hsj];exact ht)
           have hfj:∀t,t<n→wr.frozen? ⟨blk,off+t,none⟩=false:=fun t ht=>hswj.free _
           clear hswj hsj hOj hGj
           by_cases hjb2:j<b
           ·go_wp2_with fail;go_big_quiet (first|(go_at_call 219;refine Calls.quiet_of_same (less _ _ _)));go_wp2
            ·have hl:ltInt (Gj j) (Gj (j - 1))=false:=by
              have:(!ltInt (Gj j) (Gj (j - 1)))=true:=by assumption
              simpa using this
             go_roundw
             case rel=>exact Fin.out dj _ Hsj.out (HSj.out.drewN nq) (by rw[←HOj.out,up_end dj b j (.inr (by rw[←HGj.out,←HGj.out];exact hl))])
             case measure=>simp[intOf];omega
            ·have hl:ltInt (Gj j) (Gj (j - 1))=true:=by
              have:(!ltInt (Gj j) (Gj (j - 1)))=false:=by assumption
              simpa using this
             go_region
             all_goals go_wp2
             go_roundw
             case rel=>exact⟨j+1,swp dj j (j - 1),by go_num,by omega,by omega,by rw[size_swp];exact Hsj.out,by rw[HGj.out,HGj.out];exact(HSj.out.drewN (nq+1)).swap j (j - 1) (by rw[Hsj.out];omega) (by rw[Hsj.out];omega),by rw[←HOj.out,up_go dj b j hjb2 (by rw[←HGj.out,←HGj.out];exact hl)]⟩
             case measure=>simp[intOf];omega
           ·obtain rfl:j=b:=by omega
            go_wp2;go_roundw
            case rel=>exact Fin.out dj _ Hsj.out (HSj.out) (by rw[←HOj.out,up_end dj j j (.inl (by omega))])
            case measure=>simp[intOf];omega
         ·have hF:dm=D2:=by rw[←hD2,←hdm];unfold fixUp;rw[if_neg h2]
          have HF:=Lh hF;have HM:=Lh hwm;have Hsm:=Lh hsm;clear hD2 hsm hwm hdm hF;have h2z:¬(2:Int)≤(b:Int) - (k:Int):=by omega
          have h2y:decide ((2:Int)≤(b:Int) - (k:Int))=false:=decide_eq_false h2z;go_wp2_with fail;go_roundw
          case rel=>exact Fin.out dm _ Hsm.out HM.out HF.out
          case measure=>simp[intOf];omega
    ·obtain rfl:k=b:=by omega
     have hk2:=Lh ((sc_end dk k k (.inl (by omega))).symm.trans hsc.out);go_wp2_with fail;go_big_quiet (first|(go_at_call 219;refine Calls.quiet_of_same (less _ _ _)));go_wp2;go_ret;rw[←HE.out,pi_yes a k s i k dk hk2.out rfl];exact⟨rfl,HS.out.drewN nq⟩
end Go.Proofs.YtnpicaigdfnmfaaGreat.Srt
namespace Go.Proofs.YtnpicaigdfnmfaaGreat.Srt
open Go.RowKit Go.Sort
theorem tab_get(y:Int)(h0:0≤y)(h1:y<256)(h:y.toNat<Lib.len8tab.size):wrap64 (wrap64 (Lib.len8tab[y.toNat]'h).toNat)=(Lib.bitLen y.toNat:Int)∧wrap64 (8+wrap64 (Lib.len8tab[y.toNat]'h).toNat)=8+(Lib.bitLen y.toNat:Int):=by
 have e:((Lib.len8tab[y.toNat]'h).toNat:Int)=Lib.len8 y:=by
  unfold Lib.len8;rw[getElem?_pos Lib.len8tab y.toNat h];rfl
 have g:=Lib.len8_of y h0 (by omega);have l:=Lib.bitLen_le8' y h0 (by omega);rw[e];unfold wrap64
 constructor<;>omega
theorem len64(x:Int)(h0:0≤x)(hx:x<65536)(w:World):Calls Tryz.prog 223 #[.int .u64 x] w fun e w'=>e=.returned (.int .i64 (Lib.bitLen x.toNat))∧w=w':=by
 by_cases h:x<256
 ·have h2:¬(256:Int)≤x:=by omega
  go_enter func223,ntmps223
  conv in(Value.string _)=>tactic=>exact(show _=Value.string Lib.len8tab by kernel_rfl)
  go_wp2;go_ret;exact⟨congrArg Ending.returned (congrArg (Value.int IntKind.i64) (tab_get x h0 h _).1),rfl⟩
 ·have h2:(256:Int)≤x:=by omega
  have hb:x / 256<(Lib.len8tab.size:Int):=by rw[Lib.len8tab_size];omega
  go_enter func223,ntmps223
  conv in(Value.string _)=>tactic=>exact(show _=Value.string Lib.len8tab by kernel_rfl)
  go_wp2;go_ret;have s:=Lib.bitLen_shift8 x.toNat (by omega) (by omega);refine⟨congrArg Ending.returned (congrArg (Value.int IntKind.i64) ?_),rfl⟩;refine(tab_get (x / 256) (by omega) (by omega) _).2.trans ?_;rw[show(x / 256).toNat=x.toNat / 256 by omega];omega
theorem bitsLen_any(x:Nat)(hx:x<65536)(w:World):Calls Tryz.prog 160 #[.int .u64 x] w fun e w'=>e=.returned (.int .i64 (Lib.bitLen x))∧w=w':=by
 have h:∀w,Calls Tryz.prog 223 #[.int .u64 x] w fun e w'=>e=.returned (.int .i64 (Lib.bitLen x))∧w=w':=fun w=>len64 x (by omega) (by omega) w
 go_enter func160,ntmps160;go_wp2_with (go_at_call 223;(with_reducible refine(h _).mono ?_);rintro e w' ⟨rfl,rfl⟩);go_ret;exact⟨rfl,rfl⟩
theorem pow_bitLen:∀(k x:Nat),x<2 ^ k→k≤64→2 ^ Lib.bitLen x≤2*x+1∧Lib.bitLen x≤k
 |0,x,hx,_=>by
  obtain rfl:x=0:=by simp at hx;exact hx
  decide
 |k+1,x,hx,hk=>by
  by_cases h0:x=0
  ·subst h0;have:Lib.bitLen 0=0:=by decide
   rw[this];simp
  ·have hlt:x<2 ^ 64:=Nat.lt_of_lt_of_le hx (Nat.pow_le_pow_right (by omega) hk);rw[Lib.bitLen_half x h0 hlt];obtain⟨h1,h2⟩:=pow_bitLen k (x / 2) (by rw[Nat.pow_succ] at hx;omega) (by omega);refine⟨?_,by omega⟩;rw[Nat.pow_add]
   by_cases hz:x / 2=0
   ·obtain rfl:x=1:=by omega
    decide
   ·have:2 ^ Lib.bitLen (x / 2)≠2*(x / 2)+1:=by
     intro g;cases hb:Lib.bitLen (x / 2) with
     |zero=>rw[hb] at g;simp at g;omega
     |succ m=>rw[hb,Nat.pow_succ] at g;omega
    omega
theorem nextPow(x:Nat)(hx:x<65536)(w:World):Calls Tryz.prog 277 #[.int .i64 x] w fun e w'=>e=.returned (.int .u64 ((2 ^ Lib.bitLen x:Nat):Int))∧w=w':=by
 obtain⟨h1,h2⟩:=pow_bitLen 16 x hx (by omega);have h:=fun w=>bitsLen_any x hx w
 generalize Lib.bitLen x=k at*;go_enter func277,ntmps277;go_wp2_with (go_at_call 160;(with_reducible refine(h _).mono ?_);rintro e w' ⟨rfl,rfl⟩);go_ret;have e2:IntKind.u64.wrap ((2:Int) ^ k)=((2 ^ k:Nat):Int):=by
  have e3:((2:Int) ^ k)=((2 ^ k:Nat):Int):=by simp
  rw[e3];generalize 2 ^ k=y at*;simp[IntKind.wrap,IntKind.bits,IntKind.signed];omega
 exact⟨by rw[e2];rfl,rfl⟩
structure SX(W0 w:World)(blk off:Nat)(e:TypeId)(N:Nat)(d:Array Int)(sb:Nat)(r:Int):Prop where
 sw:SW W0 w blk off e N d
 new:W0.heap.size≤sb
 ne:sb≠blk
 cnt:w.heap[sb]? =some (.cells #[.int .u64 r] 403 (0,0))
 r0:0≤r
 r1:r<18446744073709551616
section
variable {W0 w:World} {blk off:Nat} {e:TypeId} {N:Nat} {d:Array Int} {sb:Nat} {r:Int}
theorem SX.drewN(h:SX W0 w blk off e N d sb r)(n:Nat):SX W0 (w.drewN n) blk off e N d sb r:=⟨h.sw.drewN n,h.new,h.ne,h.cnt,h.r0,h.r1⟩
theorem SX.cell(h:SX W0 w blk off e N d sb r):w.cell? ⟨sb,0,none⟩=some (.int .u64 r):=by unfold World.cell?;rw[h.cnt];rfl
theorem SX.free(h:SX W0 w blk off e N d sb r):w.frozen? ⟨sb,0,none⟩=false:=by unfold World.frozen?;rw[h.cnt];simp
theorem SX.put(h:SX W0 w blk off e N d sb r)(c':Int)(h0:0≤c')(h1:c'<18446744073709551616):SX W0 (w.setCell ⟨sb,0,none⟩ (.int .u64 c')) blk off e N d sb c':=by
 refine⟨⟨h.sw.mod.setCell _ (.inr h.new) _, ?_⟩,h.new,h.ne, ?_,h0,h1⟩
 ·obtain⟨cur,hb,rest⟩:=h.sw.row;exact⟨cur,by rw[heap_setCell_other _ _ _ _ h.ne.symm];exact hb,rest⟩
 ·have:=heap_setCell_same w sb 0 _ _ (.int .u64 c') h.cnt
  simpa using this
end
theorem SX.swap{W0 w:World}{blk off:Nat}{e:TypeId}{N:Nat}{d:Array Int}{sb:Nat}{r:Int}(h:SX W0 w blk off e N d sb r)(i j:Nat)(hi:i<d.size)(hj:j<d.size):SX W0 ((w.drewN 1).setCell ⟨blk,off+i,none⟩ (.int .u32 d[j]!)|>.setCell ⟨blk,off+j,none⟩ (.int .u32 d[i]!)) blk off e N (swp d i j) sb r:=
 ⟨(h.sw.drewN 1).swap i j hi hj,h.new,h.ne,by rw[heap_setCell_other _ _ _ _ h.ne,heap_setCell_other _ _ _ _ h.ne];exact h.cnt,h.r0,h.r1⟩
theorem xor_bd(a b:Int):0≤bits .xor .u64 a b∧bits .xor .u64 a b<18446744073709551616:=by
 have:bits .xor .u64 a b=IntKind.u64.wrap (bits .xor .u64 a b):=by
  unfold bits;simp[IntKind.wrap,IntKind.bits,IntKind.signed]
 rw[this,IntKind.wrap_u64];omega
def NX(W0:World)(blk off:Nat)(e:TypeId)(N:Nat)(d:Array Int)(sb:Nat)(x:Ending)(w':World):Prop:=
 ∃r:Int,x=.returned (.int .u64 r)∧0≤r∧r<18446744073709551616∧SX W0 w' blk off e N d sb r
theorem next{W0 w:World}{blk off:Nat}{e:TypeId}{N:Nat}{d:Array Int}{sb:Nat}{r:Int}(h:SX W0 w blk off e N d sb r):
  Calls Tryz.prog 278 #[.pointer (some ⟨sb,0,none⟩)] w (NX W0 blk off e N d sb):=by
 have hc:=h.cell;have hf:=h.free;have hr0:=h.r0;have hr1:=h.r1;have H:=Lh h;clear h;go_enter func278,ntmps278;go_wp2;go_region;have bd1:=xor_bd r (IntKind.u64.wrap (r*8192));generalize hr1':bits .xor .u64 r (IntKind.u64.wrap (r*8192))=r1 at*;generalize hw1:World.drew _=w1;have H1:Hid (SX W0 w1 blk off e N d sb r1):=Lh (by rw[←hw1];exact(H.out.drewN 1).put r1 bd1.1 bd1.2);clear hw1 hr1' hc hf;have hc:=H1.out.cell;have hf:=H1.out.free;go_wp2;go_region;have bd2:=xor_bd r1 (r1 / 128);generalize hr2':bits .xor .u64 r1 (r1 / 128)=r2 at*;generalize hw2:World.drew _=w2;have H2:Hid (SX W0 w2 blk off e N d sb r2):=Lh (by rw[←hw2];exact(H1.out.drewN 1).put r2 bd2.1 bd2.2);clear hw2 hr2' hc hf;have hc:=H2.out.cell;have hf:=H2.out.free;go_wp2;go_region;have bd3:=xor_bd r2 (IntKind.u64.wrap (r2*131072));generalize hr3':bits .xor .u64 r2 (IntKind.u64.wrap (r2*131072))=r3 at*;generalize hw3:World.drew _=w3;have H3:Hid (SX W0 w3 blk off e N d sb r3):=Lh (by rw[←hw3];exact(H2.out.drewN 1).put r3 bd3.1 bd3.2);clear hw3 hr3' hc hf;have hc:=H3.out.cell;have hf:=H3.out.free;go_wp2;go_ret;exact⟨r3,rfl,bd3.1,bd3.2,H3.out⟩
theorem and_bd(a:Int)(m:Nat)(h0:0≤a)(h1:a<18446744073709551616)(hm:m<18446744073709551616):∃t:Nat,bits .and .u64 a (m:Int)=(t:Int)∧t≤m:=by
 refine⟨a.toNat&&& m, ?_,Nat.and_le_right⟩;have:=u64_and a m h0 h1 (by omega) (by omega)
 simpa using this
def BP(W0:World)(blk off:Nat)(e:TypeId)(N:Nat)(d:Array Int)(a b:Nat)(x:Ending)(w':World):Prop:=
 ∃d':Array Int,x=.returned (.tuple #[])∧PermIn a b d d'∧SW W0 w' blk off e N d'
def bpRel(W0:World)(blk off:Nat)(e:TypeId)(N:Nat)(d:Array Int)(a b sb:Nat)(lo:Nat)(vi:Value)(wr:World):Prop:=
 ∃(k:Nat) (dk:Array Int) (r:Int),vi=.int .i64 ((lo:Int)+k)∧k≤3∧PermIn a b d dk∧SX W0 wr blk off e N dk sb r
theorem breakPatterns{W0 w:World}{blk off:Nat}{e:TypeId}{N:Nat}{d:Array Int}(h:SW W0 w blk off e N d)(cap a b:Nat)(hab:a+12<b)(hb:b≤d.size)(hsz:d.size<65536):
  Calls Tryz.prog 215 #[.slice (some ⟨blk,off,none⟩) d.size cap,.int .i64 a,.int .i64 b] w (BP W0 blk off e N d a b):=by
 obtain⟨l,hl⟩:∃l,b - a=l:=⟨_,rfl⟩;have hbd:(b:Int) - (a:Int)=(l:Int):=by omega
 have hl1:a+l≤b:=by omega
 have hl1':b≤a+l:=by omega
 have hl2:12<l:=by omega
 clear hl;obtain⟨lo,hlo⟩:∃lo,a+l / 4*2 - 1=lo:=⟨_,rfl⟩;have elo:(a:Int)+(l:Int) / 4*2 - 1=(lo:Int):=by omega
 have ehi:(a:Int)+(l:Int) / 4*2+1=(lo:Int)+2:=by omega
 have l0:a≤lo∧lo+2<b:=by omega
 clear hlo;obtain⟨p1,p2⟩:=pow_bitLen 16 l (by omega) (by omega);have hnp:=fun w=>nextPow l (by omega) w
 have hp0:1≤2 ^ Lib.bitLen l:=Nat.one_le_two_pow;have hpe:2 ^ Lib.bitLen l≤2*l:=by
  have e:=Lib.bitLen_half l (by omega) (by omega);rw[e,Nat.pow_add] at p1⊢;omega
 clear p1 p2;generalize 2 ^ Lib.bitLen l=m at*;have h0:SX W0 (w.alloc (.cells #[.int .u64 l] 403)) blk off e N d w.heap.size l:=
  ⟨h.below (Ba _),h.mod.size,by have:=h.lt;omega,by have:=heap_alloc_new w (.cells #[.int .u64 l] 403);simpa using this,by omega,by omega⟩
 have H0:=Lh h0;clear h0 h;generalize hn:d.size=n at*;have Hn:=Lh hn;clear hn;go_enter func215,ntmps215;go_wp2_with (go_at_call 277;(with_reducible refine(hnp _).mono ?_);rintro e w' ⟨rfl,rfl⟩);generalize w.heap.size=sb at*;clear hnp;go_loopw [9,10] (fun vi _ wr=>bpRel W0 blk off e N d a b sb lo vi wr) (fun vi _ _=>(lo+3 - intOf vi).toNat)
 case atStart=>exact⟨0,d,l,by go_num,by omega,permIn_refl _ _ _,H0.out⟩
 case round=>
  obtain⟨k,dk,r,rfl,hk,hp,hsx⟩:=hrel;have hsz2:dk.size=n:=hp.1.trans Hn.out;have HX:=Lh hsx;have HP:=Lh hp;have Hsz2:=Lh hsz2;have hnx:=next hsx;have HNX:=Lh hnx;clear hsx hp hsz2 hnx
  by_cases hk3:k<3
  ·go_wp2_with fail;refine HNX.out.mono ?_;rintro y w2 ⟨r2,rfl,g0,g1,hx2⟩;obtain⟨t,ht,htm⟩:=and_bd r2 (m - 1) g0 g1 (by omega);rw[show((m - 1:Nat):Int)=(m:Int) - 1 by omega] at ht;obtain⟨G,hG⟩:∃G:Nat→Int,∀t,G t=dk[t]! :=⟨fun t=>dk[t]!,fun _=>rfl⟩;have HG:=Lh hG;have HX2:=Lh hx2;clear hx2 hG;have hcw:∀t,t<n→w2.cell? ⟨blk,off+t,none⟩=some (.int .u32 (G t)):=fun t ht=>by rw[HG.out];exact HX2.out.sw.cells t (by rw[Hsz2.out];exact ht)
   have hfw:∀t,t<n→w2.frozen? ⟨blk,off+t,none⟩=false:=fun t ht=>HX2.out.sw.free _
   have ht3:t<2*l:=by omega
   clear htm
   by_cases htl:t<l
   ·have htz:¬(l:Int)≤(t:Int):=by omega
    obtain⟨v',hy'⟩:=cell?_setCell_some (w:=w2) (p:=⟨blk,off+(lo+k),none⟩) (x:=.int .u32 (G (a+t))) (q:=⟨blk,off+(a+t),none⟩) (hcw (a+t) (by omega));go_wp2;go_region
    all_goals go_wp2
    go_roundw
    case rel=>
     refine⟨k+1,swp dk (lo+k) (a+t),r2,by congr 1,by omega,permIn_trans _ _ _ _ _ HP.out (swp_permIn dk a b (lo+k) (a+t) (by omega) (by omega) (by omega) (by omega) (by rw[Hsz2.out];exact hb)), ?_⟩;have hw:=HX2.out.swap (lo+k) (a+t) (by rw[Hsz2.out];omega) (by rw[Hsz2.out];omega);rw[HG.out,HG.out];exact hw
    case measure=>simp[intOf];omega
   ·have htz:(l:Int)≤(t:Int):=by omega
    obtain⟨u,hu⟩:∃u,t - l=u:=⟨_,rfl⟩;have hu1:(t:Int) - (l:Int)=(u:Int):=by omega
    have hu2:u<l:=by omega
    clear hu;obtain⟨v',hy'⟩:=cell?_setCell_some (w:=w2) (p:=⟨blk,off+(lo+k),none⟩) (x:=.int .u32 (G (a+u))) (q:=⟨blk,off+(a+u),none⟩) (hcw (a+u) (by omega));go_wp2;go_region
    all_goals go_wp2
    go_roundw
    case rel=>
     refine⟨k+1,swp dk (lo+k) (a+u),r2,by congr 1,by omega,permIn_trans _ _ _ _ _ HP.out (swp_permIn dk a b (lo+k) (a+u) (by omega) (by omega) (by omega) (by omega) (by rw[Hsz2.out];exact hb)), ?_⟩;have hw:=HX2.out.swap (lo+k) (a+u) (by rw[Hsz2.out];omega) (by rw[Hsz2.out];omega);rw[HG.out,HG.out];exact hw
    case measure=>simp[intOf];omega
  ·obtain rfl:k=3:=by omega
   go_wp2;go_end0;exact⟨dk,rfl,HP.out,HX.out.sw⟩
end Go.Proofs.YtnpicaigdfnmfaaGreat.Srt
namespace Go.Proofs.YtnpicaigdfnmfaaGreat.Srt
open Go.RowKit Go.Sort
def PQ(W0:World)(blk off:Nat)(e:TypeId)(N:Nat)(d:Array Int)(a b:Nat)(x:Ending)(w':World):Prop:=
 ∃d':Array Int,x=.returned (.tuple #[])∧PermIn a b d d'∧SortedIn ltInt a b d'∧SW W0 w' blk off e N d'
def Glue(d dk:Array Int)(a b p q:Nat):Prop:=∀D,PermIn p q dk D→SortedIn ltInt p q D→PermIn a b d D∧SortedIn ltInt a b D
def pdRel(W0:World)(blk off:Nat)(e:TypeId)(N n:Nat)(d:Array Int)(a b:Nat)(s1 s2 s3 s8 s9:Value)(wr:World):Prop:=
 ∃(p q lim:Nat) (wb wp:Bool) (dk:Array Int),s1=.int .i64 p∧s2=.int .i64 q∧s3=.int .i64 lim∧s8=.bool wb∧s9=.bool wp∧a≤p∧p≤q∧q≤b∧lim≤64∧dk.size=n∧SW W0 wr blk off e N dk∧Sort.Below ltInt p q dk∧Glue d dk a b p q
def brRel(W0:World)(blk off:Nat)(e:TypeId)(N:Nat)(dk:Array Int)(p q:Nat)(s3:Value)(wr:World):Prop:=
 ∃(lim:Nat) (d1:Array Int),s3=.int .i64 lim∧lim≤64∧PermIn p q dk d1∧SW W0 wr blk off e N d1
def rvRel(W0:World)(blk off:Nat)(e:TypeId)(N:Nat)(dk:Array Int)(p q:Nat)(s11 s12:Value)(wr:World):Prop:=
 ∃(pv:Nat) (h:Int) (d2:Array Int),s11=.int .i64 pv∧s12=.int .i64 h∧p≤pv∧pv<q∧PermIn p q dk d2∧SW W0 wr blk off e N d2
def prRel(W0:World)(blk off:Nat)(e:TypeId)(N:Nat)(dk:Array Int)(p q:Nat)(wr:World):Prop:=
 ∃d2:Array Int,PermIn p q dk d2∧SW W0 wr blk off e N d2
def bRel(W0:World)(blk off:Nat)(e:TypeId)(N:Nat)(d2:Array Int)(s:Value)(wr:World):Prop:=∃c:Bool,s=.bool c∧SW W0 wr blk off e N d2
theorem partition_post{W0 w:World}{blk off:Nat}{e:TypeId}{N:Nat}{d:Array Int}(h:SW W0 w blk off e N d)(cap a b pivot:Nat)(hap:a≤pivot)(hpb:pivot<b)(hb:b≤d.size)(hsz:d.size<4611686018427387904):
  Calls Tryz.prog 221 #[.slice (some ⟨blk,off,none⟩) d.size cap,.int .i64 a,.int .i64 b,.int .i64 pivot] w fun x w'=>∃ap:Bool,x=.returned (.tuple #[.int .i64 (Sort.partition ltInt d a b pivot).1,.bool ap])∧SW W0 w' blk off e N (Sort.partition ltInt d a b pivot).2.2:=
 (partition_any h cap a b pivot hap hpb hb hsz).mono fun x w' ⟨ap,h1,h2⟩=>⟨ap,by rw[h1,partition_fst],by rw[partition_arr];exact h2⟩
theorem pdqsort(W0:World)(blk off:Nat)(e:TypeId)(N cap n:Nat)(hsz:n<65536):∀(m:Nat) (w:World) (d:Array Int) (a b lim:Nat),b - a≤m→SW W0 w blk off e N d→d.size=n→a≤b→b≤n→lim≤64→Sort.Below ltInt a b d→
  Calls Tryz.prog 159 #[.slice (some ⟨blk,off,none⟩) n cap,.int .i64 a,.int .i64 b,.int .i64 lim] w (PQ W0 blk off e N d a b):=by
 intro m
 induction m with
 |zero=>
  intro w d a b lim hm h hn hab hb hlim hB;obtain rfl:a=b:=by omega
  subst hn;have k1:=Lh (insertionSort h cap a a (Nat.le_refl _) hb (by omega));have HI:=Lh (insertionSort_holds (lt:=ltInt) swo_ltInt d a a (Nat.le_refl _) hb);clear h;generalize d.size=n at*;go_enter func159,ntmps159;go_wp2;refine wp_loop_rounds 1 ?_;rw[rounds_succ];go_wp2_with ((with_reducible refine k1.out.mono ?_);rintro x w1 ⟨rfl,h1⟩)
  (try simp only[Exit.inBlock,Exit.then]);refine bodyPost_ret (results_none rfl _ _ _) rfl ?_
  exact⟨_,rfl,HI.out.1,HI.out.2,h1⟩
 |succ m ih=>
  intro w d a b lim hm h hn hab hb hlim hB;have Ih:=Lh ih;have Hn:=Lh hn;have H:=Lh h;have HB:=Lh hB;clear ih h hn hB;go_enter func159,ntmps159;go_wp2;go_loopw [1,2,3,8,9] (fun s1 s2 s3 s8 s9 wr=>pdRel W0 blk off e N n d a b s1 s2 s3 s8 s9 wr) (fun s1 s2 _ _ _ _=>(intOf s2).toNat - (intOf s1).toNat)
  case atStart=>exact⟨a,b,lim,true,true,d,rfl,rfl,rfl,rfl,rfl,Nat.le_refl _,hab,Nat.le_refl _,hlim,Hn.out,H.out,HB.out,fun D h1 h2=>⟨h1,h2⟩⟩
  case round=>
   clear hlim;obtain⟨p,q,lim,wb,wp,dk,rfl,rfl,rfl,rfl,rfl,hap,hpq,hqb,hlim,hsk,hsw,hbl,hgl⟩:=hrel;have HS:=Lh hsw;have Hsk:=Lh hsk;have Hbl:=Lh hbl;have Hgl:=Lh hgl;clear hsw hsk hbl hgl
   by_cases h12:q - p≤12
   ·have h12z:(q:Int) - (p:Int)≤12:=by omega
    have k1:=insertionSort HS.out cap p q hpq (by rw[Hsk.out];omega) (by rw[Hsk.out];omega);rw[Hsk.out] at k1;have K1:=Lh k1;clear k1;have HI:=Lh (insertionSort_holds (lt:=ltInt) swo_ltInt dk p q hpq (by rw[Hsk.out];omega));go_wp2_with ((with_reducible refine K1.out.mono ?_);rintro x w1 ⟨rfl,h1⟩)
    (try simp only[Exit.inBlock,Exit.then]);refine bodyPost_ret (results_none rfl _ _ _) rfl ?_
    obtain⟨g1,g2⟩:=Hgl.out _ HI.out.1 HI.out.2;exact⟨_,rfl,g1,g2,h1⟩
   ·have h12z:¬(q:Int) - (p:Int)≤12:=by omega
    by_cases hl0:lim=0
    ·subst hl0;have k1:=heapSort_any HS.out cap p q (by omega) (by rw[Hsk.out];omega) (by rw[Hsk.out];omega);rw[Hsk.out] at k1;have K1:=Lh k1;clear k1;have HI:=Lh (heapSort_holds (lt:=ltInt) swo_ltInt dk p q hpq (by rw[Hsk.out];omega));go_wp2_with ((with_reducible refine K1.out.mono ?_);rintro x w1 ⟨rfl,h1⟩)
     (try simp only[Exit.inBlock,Exit.then]);refine bodyPost_ret (results_none rfl _ _ _) rfl ?_
     obtain⟨g1,g2⟩:=Hgl.out _ HI.out.1 HI.out.2;exact⟨_,rfl,g1,g2,h1⟩
    ·have hlz:((lim:Int) == 0)=false:=by simpa using hl0
     go_upto_if 35 with(fail);go_cut [3] (fun s3 wx=>brRel W0 blk off e N dk p q s3 wx)
     case first=>
      cases wb with
      |true=>
       go_wp2_with fail;go_meet
       case rel=>exact⟨lim,dk,rfl,hlim,permIn_refl _ _ _,HS.out⟩
      |false=>
       have k1:=breakPatterns HS.out cap p q (by omega) (by rw[Hsk.out];omega) (by rw[Hsk.out];omega);rw[Hsk.out] at k1;have K1:=Lh k1;clear k1;go_wp2_with ((with_reducible refine K1.out.mono ?_);rintro x w1 ⟨d1,rfl,hp1,h1⟩);go_meet
       case rel=>exact⟨lim - 1,d1,by congr 1;omega,by omega,hp1,h1⟩
     case rest=>
      obtain⟨lim1,d1,rfl,hlim1,hp1,h1⟩:=hcut;have hs1:=hp1.1.trans Hsk.out;have H1:=Lh h1;have Hs1:=Lh hs1;have k1:=choosePivot h1 cap p q (by omega) (by rw[hs1];omega) (by rw[hs1];omega);rw[hs1] at k1;have K1:=Lh k1;have Hp1:=Lh hp1;clear k1 h1 hs1 hp1;go_upto_if 50 with((with_reducible refine K1.out.mono ?_);rintro x w1 ⟨pv,hk,rfl,g1,g2,g3,h2⟩);go_cut [11,12] (fun s11 s12 wx=>rvRel W0 blk off e N d1 p q s11 s12 wx)
      case first=>
       have H2:=Lh h2;clear h2
       by_cases hk2:hk=2
       ·subst hk2;have k1:=reverseRange H2.out cap p q (by omega) (by rw[Hs1.out];omega) (by rw[Hs1.out];omega);rw[Hs1.out] at k1;have K2:=Lh k1;clear k1 g3;have HR:=Lh (reverseRange_holds (α:=Int) d1 p q (by omega) (by rw[Hs1.out];omega));go_wp2_with ((with_reducible refine K2.out.mono ?_);rintro x w2 ⟨rfl,h3⟩);go_meet
        case rel=>exact⟨q - 1 - (pv - p),1,_,by congr 1;omega,rfl,by omega,by omega,HR.out,h3⟩
       ·have hkz:(hk == 2)=false:=by simpa using hk2
        go_wp2_with fail;go_meet
        case rel=>exact⟨pv,hk,d1,rfl,rfl,g1,g2,permIn_refl _ _ _,H2.out⟩
      case rest=>
       clear g1 g2 g3 h2 pv hk w1;obtain⟨pv,hk,d2,rfl,rfl,g1,g2,hp2,h2⟩:=hcut;have hp12:=permIn_trans _ _ _ _ _ Hp1.out hp2;have hs2:=hp12.1.trans Hsk.out;have H2:=Lh h2;have Hs2:=Lh hs2;have Hp2:=Lh hp12;have Hb2:=Lh (Sort.Below.perm Hbl.out (by rw[Hsk.out];omega) hp12);clear h2 hs2 hp2 hp12 H1 Hs1 K1 Hp1;go_upto_region 15 with(fail);go_cut [68] (fun s wx=>bRel W0 blk off e N d2 s wx)
       case first=>
        by_cases hk1:hk=1
        ·subst hk1;cases wb<;>cases wp
         all_goals
          go_wp2_with fail;go_meet
          case rel=>exact⟨_,rfl,H2.out⟩
        ·have hkz:(hk == 1)=false:=by simpa using hk1
         cases wb<;>cases wp
         all_goals
          go_wp2_with fail;go_meet
          case rel=>exact⟨_,rfl,H2.out⟩
       case rest=>
        clear H2;obtain⟨c,rfl,h2⟩:=hcut;have H2:=Lh h2;clear h2;go_upto_if 68 with(fail);go_cut [13] (fun _ wx=>prRel W0 blk off e N dk p q wx)
        case first=>
         cases c with
         |false=>
          go_wp2_with fail;go_meet
          case rel=>exact⟨d2,Hp2.out,H2.out⟩
         |true=>
          have k1:=partialInsertionSort_any H2.out cap p q (by omega) (by rw[Hs2.out];omega) (by rw[Hs2.out];omega);rw[Hs2.out] at k1;have HR:=Lh (partialInsertionSort_holds (lt:=ltInt) swo_ltInt d2 p q (by omega) (by rw[Hs2.out];omega) Hb2.out);generalize Sort.partialInsertionSort ltInt d2 p q=R at*;obtain⟨d3,r⟩:=R;have K2:=Lh k1;clear k1;cases r with
          |true=>
           go_wp2_with ((with_reducible refine K2.out.mono ?_);rintro x w2 ⟨rfl,h3⟩)
           (try simp only[Exit.inBlock,Exit.then]);refine bodyPost_ret (results_none rfl _ _ _) rfl ?_
           obtain⟨g1,g2⟩:=Hgl.out _ (permIn_trans _ _ _ _ _ Hp2.out HR.out.1) (HR.out.2 (by trivial));exact⟨_,rfl,g1,g2,h3⟩
          |false=>
           go_wp2_with ((with_reducible refine K2.out.mono ?_);rintro x w2 ⟨rfl,h3⟩);go_meet
           case rel=>exact⟨d3,permIn_trans _ _ _ _ _ Hp2.out HR.out.1,h3⟩
        case rest=>
         clear Hs2 Hp2 Hb2 H2 d2;obtain⟨d2,hp2,h2⟩:=hcut;have hs2:=hp2.1.trans Hsk.out;obtain⟨G,hG⟩:∃G:Nat→Int,∀t,G t=d2[t]! :=⟨fun t=>d2[t]!,fun _=>rfl⟩;have hcw:∀t,t<n→wc.cell? ⟨blk,off+t,none⟩=some (.int .u32 (G t)):=fun t ht=>by rw[hG];exact h2.cells t (by omega)
         have HG:=Lh hG;have H2:=Lh h2;have Hs2:=Lh hs2;have Hp2:=Lh hp2;have Hb2:=Lh (Sort.Below.perm Hbl.out (by rw[Hsk.out];omega) hp2);clear h2 hs2 hp2 hG
         by_cases hp0:0<p
         ·go_wp2_with fail;go_big_quiet (first|(go_at_call 219;refine Calls.quiet_of_same (less _ _ _)));go_wp2_with fail
          ·have ht:ltInt (G (p - 1)) (G pv)=false:=by
            have:(!ltInt (G (p - 1)) (G pv))=true:=by assumption
            simpa using this
           have H3:=Lh (H2.out.drewN nq);generalize wc.drewN nq=W3 at*;have k1:=partitionEqual_any H3.out cap p q pv g1 g2 (by rw[Hs2.out];omega) (by rw[Hs2.out];omega);rw[Hs2.out] at k1;have hR:=round_eq (lt:=ltInt) swo_ltInt (partitionEqual_holds _) (d3:=d2) (a:=p) (b:=q) (pivot:=pv) hp0 g1 g2 (by rw[Hs2.out];omega) Hb2.out (by rw[←HG.out,←HG.out];exact ht) (show Sort.partitionEqual ltInt d2 p q pv=((Sort.partitionEqual ltInt d2 p q pv).1,(Sort.partitionEqual ltInt d2 p q pv).2) from rfl);generalize Sort.partitionEqual ltInt d2 p q pv=R at*;obtain⟨mid,d4⟩:=R;obtain⟨r1,r2,r3,r4,r5⟩:=hR;simp only at r1 r2 r3 r4 r5;have K2:=Lh k1;have R3:=Lh (r3.trans Hs2.out);have R4:=Lh r4;have R5:=Lh r5;clear k1 hcw r3 r4 r5 ht;go_wp2_with fail;refine K2.out.mono ?_;rintro x w4 ⟨rfl,h4⟩;have H4:=Lh h4;clear h4;go_wp2;go_roundw
           case rel=>exact⟨mid,q,lim1,wb,wp,d4,rfl,rfl,rfl,rfl,rfl,by omega,by omega,by omega,hlim1,R3.out,H4.out,R4.out,fun D h1 h2=>by obtain⟨x1,x2⟩:=R5.out D h1 h2;exact Hgl.out D (permIn_trans _ _ _ _ _ Hp2.out x1) x2⟩
           case measure=>simp[intOf];omega
          ·have H3:=Lh (H2.out.drewN nq);generalize wc.drewN nq=W3 at*;have k1:=partition_post H3.out cap p q pv g1 g2 (by rw[Hs2.out];omega) (by rw[Hs2.out];omega);rw[Hs2.out] at k1;have hR:=round_part (lt:=ltInt) swo_ltInt (partition_holds _) (d3:=d2) (a:=p) (b:=q) (pivot:=pv) g1 g2 (by rw[Hs2.out];omega) Hb2.out (show Sort.partition ltInt d2 p q pv=((Sort.partition ltInt d2 p q pv).1,(Sort.partition ltInt d2 p q pv).2.1,(Sort.partition ltInt d2 p q pv).2.2) from rfl);generalize Sort.partition ltInt d2 p q pv=R at*;obtain⟨mid,ap0,d4⟩:=R;obtain⟨r1,r2,r3,r4,r5,r6,r7⟩:=hR;simp only at r1 r2 r3 r4 r5 r6 r7;have K2:=Lh k1;have R3:=Lh (r3.trans Hs2.out);have R4:=Lh r4;have R5:=Lh r5;have R6:=Lh r6;have R7:=Lh r7;clear k1 hcw r3 r4 r5 r6 r7
           by_cases hlr:mid - p<q - mid
           ·have hlrz:(mid:Int) - (p:Int)<(q:Int) - (mid:Int):=by omega
            go_wp2_with fail;refine K2.out.mono ?_;rintro x w4 ⟨ap,rfl,h4⟩;have K3:=Lh (Ih.out w4 d4 p mid lim1 (by omega) h4 R3.out r1 (by omega) hlim1 R4.out);clear h4;go_wp2_with fail;refine K3.out.mono ?_;rintro x w5 ⟨L,rfl,hL,hsL,h5⟩;obtain⟨t1,t2⟩:=R6.out L hL hsL;have T1:=Lh t1;have T2:=Lh t2;have HL:=Lh (hL.1.trans R3.out);have H5:=Lh h5;clear t1 t2 hL hsL h5;go_wp2;go_roundw
            case rel=>exact⟨mid+1,q,lim1,_,ap,L,by go_num,rfl,rfl,rfl,rfl,by omega,by omega,by omega,hlim1,HL.out,H5.out,T1.out,fun D h1 h2=>by obtain⟨x1,x2⟩:=T2.out D h1 h2;exact Hgl.out D (permIn_trans _ _ _ _ _ Hp2.out x1) x2⟩
            case measure=>simp[intOf];omega
           ·have hlrz:¬(mid:Int) - (p:Int)<(q:Int) - (mid:Int):=by omega
            go_wp2_with fail;refine K2.out.mono ?_;rintro x w4 ⟨ap,rfl,h4⟩;have K3:=Lh (Ih.out w4 d4 (mid+1) q lim1 (by omega) h4 R3.out (by omega) (by omega) hlim1 R5.out);clear h4;go_wp2_with fail;refine K3.out.mono ?_;rintro x w5 ⟨L,rfl,hL,hsL,h5⟩;obtain⟨t1,t2⟩:=R7.out L hL hsL;have T1:=Lh t1;have T2:=Lh t2;have HL:=Lh (hL.1.trans R3.out);have H5:=Lh h5;clear t1 t2 hL hsL h5;go_wp2;go_roundw
            case rel=>exact⟨p,mid,lim1,_,ap,L,rfl,rfl,rfl,rfl,rfl,by omega,by omega,by omega,hlim1,HL.out,H5.out,T1.out,fun D h1 h2=>by obtain⟨x1,x2⟩:=T2.out D h1 h2;exact Hgl.out D (permIn_trans _ _ _ _ _ Hp2.out x1) x2⟩
            case measure=>simp[intOf];omega
         ·have hpz:decide ((p:Int)>0)=false:=decide_eq_false (by omega);have hpy:decide (0<(p:Int))=false:=decide_eq_false (by omega);go_wp2_with fail;go_big_quiet (first|(go_at_call 219;refine Calls.quiet_of_same (less _ _ _)));go_wp2_with fail;have H3:=Lh (H2.out.drewN nq);generalize wc.drewN nq=W3 at*;have k1:=partition_post H3.out cap p q pv g1 g2 (by rw[Hs2.out];omega) (by rw[Hs2.out];omega);rw[Hs2.out] at k1;have hR:=round_part (lt:=ltInt) swo_ltInt (partition_holds _) (d3:=d2) (a:=p) (b:=q) (pivot:=pv) g1 g2 (by rw[Hs2.out];omega) Hb2.out (show Sort.partition ltInt d2 p q pv=((Sort.partition ltInt d2 p q pv).1,(Sort.partition ltInt d2 p q pv).2.1,(Sort.partition ltInt d2 p q pv).2.2) from rfl);generalize Sort.partition ltInt d2 p q pv=R at*;obtain⟨mid,ap0,d4⟩:=R;obtain⟨r1,r2,r3,r4,r5,r6,r7⟩:=hR;simp only at r1 r2 r3 r4 r5 r6 r7;have K2:=Lh k1;have R3:=Lh (r3.trans Hs2.out);have R4:=Lh r4;have R5:=Lh r5;have R6:=Lh r6;have R7:=Lh r7;clear k1 hcw r3 r4 r5 r6 r7
          by_cases hlr:mid - p<q - mid
          ·have hlrz:(mid:Int) - (p:Int)<(q:Int) - (mid:Int):=by omega
           go_wp2_with fail;refine K2.out.mono ?_;rintro x w4 ⟨ap,rfl,h4⟩;have K3:=Lh (Ih.out w4 d4 p mid lim1 (by omega) h4 R3.out r1 (by omega) hlim1 R4.out);clear h4;go_wp2_with fail;refine K3.out.mono ?_;rintro x w5 ⟨L,rfl,hL,hsL,h5⟩;obtain⟨t1,t2⟩:=R6.out L hL hsL;have T1:=Lh t1;have T2:=Lh t2;have HL:=Lh (hL.1.trans R3.out);have H5:=Lh h5;clear t1 t2 hL hsL h5;go_wp2;go_roundw
           case rel=>exact⟨mid+1,q,lim1,_,ap,L,by go_num,rfl,rfl,rfl,rfl,by omega,by omega,by omega,hlim1,HL.out,H5.out,T1.out,fun D h1 h2=>by obtain⟨x1,x2⟩:=T2.out D h1 h2;exact Hgl.out D (permIn_trans _ _ _ _ _ Hp2.out x1) x2⟩
           case measure=>simp[intOf];omega
          ·have hlrz:¬(mid:Int) - (p:Int)<(q:Int) - (mid:Int):=by omega
           go_wp2_with fail;refine K2.out.mono ?_;rintro x w4 ⟨ap,rfl,h4⟩;have K3:=Lh (Ih.out w4 d4 (mid+1) q lim1 (by omega) h4 R3.out (by omega) (by omega) hlim1 R5.out);clear h4;go_wp2_with fail;refine K3.out.mono ?_;rintro x w5 ⟨L,rfl,hL,hsL,h5⟩;obtain⟨t1,t2⟩:=R7.out L hL hsL;have T1:=Lh t1;have T2:=Lh t2;have HL:=Lh (hL.1.trans R3.out);have H5:=Lh h5;clear t1 t2 hL hsL h5;go_wp2;go_roundw
           case rel=>exact⟨p,mid,lim1,_,ap,L,rfl,rfl,rfl,rfl,rfl,by omega,by omega,by omega,hlim1,HL.out,H5.out,T1.out,fun D h1 h2=>by obtain⟨x1,x2⟩:=T2.out D h1 h2;exact Hgl.out D (permIn_trans _ _ _ _ _ Hp2.out x1) x2⟩
           case measure=>simp[intOf];omega
theorem sort{W0 w:World}{blk off:Nat}{e:TypeId}{N:Nat}{d:Array Int}(h:SW W0 w blk off e N d)(cap n:Nat)(hn:d.size=n)(hsz:n<65536):
  Calls Tryz.prog 113 #[.slice (some ⟨blk,off,none⟩) n cap] w (PQ W0 blk off e N d 0 n):=by
 obtain⟨_,p2⟩:=pow_bitLen 16 n (by omega) (by omega);have k1:=Lh (pdqsort W0 blk off e N cap n hsz n w d 0 n (Lib.bitLen n) (by omega) h hn (by omega) (Nat.le_refl _) (by omega) (.inl rfl));have hl:=fun w=>bitsLen_any n hsz w
 clear h hn;generalize Lib.bitLen n=k at*;go_enter func113,ntmps113;go_wp2_with (first|(go_at_call 160;(with_reducible refine(hl _).mono ?_);rintro x w' ⟨rfl,rfl⟩)|(go_at_call 159;refine k1.out.mono ?_;rintro x w' ⟨d',rfl,h1,h2,h3⟩));go_end0;exact⟨d',rfl,h1,h2,h3⟩
end Go.Proofs.YtnpicaigdfnmfaaGreat.Srt
