/-
  Laid texts.
-/
import Derived.Test.YtcicjklhbnipcaaGreatDoorPkWpD
import Derived.Laws.StructEq
import Derived.Lib.SplitLaws
set_option maxHeartbeats 16000000
set_option maxRecDepth 1000000
set_option linter.unusedVariables false
set_option linter.unusedSimpArgs false
namespace Go.Proofs.YtcicjklhbnipcaaGreatDoor
section
open Go.RowKit
def Mx(w:World):Prop:= ∃ m,w.cell? ⟨0,0,none⟩=some (.int .i64 m)
theorem Mx.pos{w:World}(h:Mx w):0<w.heap.size:=by obtain⟨m,h⟩:=h;exact World.block_lt_of_cell? w ⟨0,0,none⟩ h
theorem Mx.below{w w':World}(h:Mx w)(hb:Below w.heap.size w w'):Mx w':=by
 have hp:=h.pos
 obtain⟨m,h⟩:=h
 exact⟨m,(hb.cell (p:=⟨0,0,none⟩) hp).trans h⟩
theorem St.mx{w0 w:World}{F:List Nat}{L:List Ent}(hM:St w0 F w L)(h:Mx w0)(h0:0∉F):Mx w:=by
 obtain⟨m,h⟩:=h
 exact⟨m,yi hM.only h h0⟩
def znq(xs:List ByteArray)(w:World)(e:Ending)(w':World):Prop:= ∃ s,e= .returned (slV s xs.length)∧TxOK s xs∧St w [] w' (txL s xs)
namespace Pt
def slash:ByteArray:=⟨#[47]⟩
def parts(p:ByteArray):List ByteArray:=if p.size=0 then [] else Lib.splitB slash 0 (Lib.countB p slash) p
end Pt
theorem ZE{s:ByteArray}:s.size=0↔s.data.toList=[]:=by
 constructor
 ·intro h;exact lbWz.1 (by rw[←Lib.size_eq];exact h)
 ·intro h;rw[Lib.size_eq,h];rfl
theorem Xf(p:ByteArray)(w:World)(hp:p.size≤1000000)(hm:Mx w):Calls Tryz.prog 164 #[.string p] w (znq (Pt.parts p) w):=by
 have hM:=St.start w []
 by_cases h0:p.size=0
 ·have e:Pt.parts p=[]:=if_pos h0
  rw[e]
  have hq:=Zn (ZE.1 h0)
  clear h0 hp
  go_enter Tryz.func164,Tryz.ntmps164
  (refine qw ?_;intros;rename_i hM)
  (refine qf ?_)
  exact⟨none,rfl,⟨rfl,rfl⟩,hM⟩
 ·have e:Pt.parts p=Lib.splitB Pt.slash 0 (Lib.countB p Pt.slash) p:=if_neg h0
  have hq:=Zt (l:=[]) (fun h=>h0 (ZE.2 h))
  obtain⟨m,hm⟩:=hm
  have C:=qh (Tryz.strings_Split p Pt.slash m w (by omega) hm (by decide))
  rw[e]
  have hl:(Lib.splitB Pt.slash 0 (Lib.countB p Pt.slash) p).length=Lib.countB p Pt.slash+1:=Lib.splitB_all Pt.slash (by decide) 0 _ p rfl
  have hcn:=Lib.countB_le Pt.slash (by decide) _ p (Nat.le_refl _)
  generalize Lib.splitB Pt.slash 0 (Lib.countB p Pt.slash) p=xs at*
  generalize Lib.countB p Pt.slash=n at*
  have hnm:n+1≤maxLen:=by unfold maxLen;omega
  clear h0 hp e hcn
  go_enter Tryz.func164,Tryz.ntmps164
  (refine qw ?_;intros;rename_i hM)
  (refine qK (fun R hR=> ?_))
  refine C.out.mono ?_
  rintro e w' ⟨rfl,rfl⟩
  have hb:=(Below.refl w.heap.size w).alloc (Nat.le_refl _) (.cells (List.map Value.string xs).toArray 9)
  have hN:=(hM.push (.cells (List.map Value.string xs).toArray 9) (r:= .pre (xs.map Value.string) 9 ((n+1)*1)) ⟨[],by simp,by simp[hl]⟩)
  refine hR.out _ _ (fun h=>h.below hb) ?_;clear hR R hb;replace hM:=hN;clear hN
  generalize w.alloc (Obj.cells (List.map Value.string xs).toArray 9)=w1 at*
  generalize w.heap.size=g at*
  (refine qq ?_)
  (refine qw ?_;intros;rename_i hM)
  (refine qf ?_)
  exact⟨some (g,n+1),by rw[hl];rfl,⟨by simp,by rw[hl];exact⟨Nat.le_refl _,hnm⟩⟩,hM⟩
namespace Pt
def isName(s:ByteArray):Bool:= !(s.data.toList==[46])&& !(s.data.toList==[46,46])&&decide (1≤s.size)&&decide (s.size≤32)&&decide (Lib.indexByte s.data.toList 0<0)
end Pt
theorem zeL(s:ByteArray)(w:World)(hs:s.size≤maxLen):An 191 #[.string s] w (.bool (Pt.isName s)):=by
 rw[zj] at hs
 have hM:=St.start w []
 by_cases h1:s.data.toList=[46]
 ·have q1:=Zn h1
  have e:Pt.isName s=false:=by unfold Pt.isName;rw[h1];rfl
  rw[e]
  clear h1 hs e
  go_enter Tryz.func191,Tryz.ntmps191
  (refine qw ?_;intros;rename_i hM)
  refine wp_loop_rounds 3 ?_
  (refine Zq (fun K hK=> ?_))
  exact qwf
 by_cases h2:s.data.toList=[46,46]
 ·have q1:=Zt h1
  have q2:=Zn h2
  have e:Pt.isName s=false:=by unfold Pt.isName;rw[h2];rfl
  rw[e]
  clear h1 h2 hs e
  go_enter Tryz.func191,Tryz.ntmps191
  (refine qw ?_;intros;rename_i hM)
  refine wp_loop_rounds 3 ?_
  (refine Zq (fun K hK=> ?_))
  exact qwf
 have q1:=Zt h1
 have q2:=Zt h2
 have e:Pt.isName s=(decide (1≤s.size)&&decide (s.size≤32)&&decide (Lib.indexByte s.data.toList 0<0)):=by
  unfold Pt.isName
  rw[qne.2 h1,qne.2 h2]
  rfl
 rw[e]
 have C:=qh (Tryz.strings_IndexByte s 0)
 rw[show(0:Int).toNat.toUInt8=(0:UInt8) from rfl] at C
 generalize Lib.indexByte s.data.toList 0=r at*
 clear h1 h2 e
 by_cases k1:1≤s.size
 ·by_cases k2:s.size≤32
  ·have d1:decide ((1:Int)≤(s.size:Int))=true:=decide_eq_true (by omega)
   have d2:decide ((s.size:Int)≤(32:Int))=true:=decide_eq_true (by omega)
   rw[decide_eq_true k1,decide_eq_true k2]
   simp only[Bool.true_and]
   clear k1 k2 hs
   go_enter Tryz.func191,Tryz.ntmps191
   (refine qw ?_;intros;rename_i hM)
   refine wp_loop_rounds 3 ?_
   (refine Zq (fun K hK=> ?_))
   (repeat(first|(first|(refine qW ?_;clear hM;intros;rename_i hM))|((refine qK (fun R hR=> ?_));first|((with_reducible refine(C.out _).mono ?_);((first|refine qG hR ?_|refine qGr hR ?_);clear hR R)))))
   exact qfb
  ·have d1:decide ((1:Int)≤(s.size:Int))=true:=decide_eq_true (by omega)
   have d2:decide ((s.size:Int)≤(32:Int))=false:=decide_eq_false (by omega)
   rw[decide_eq_true k1,decide_eq_false k2]
   simp only[Bool.true_and,Bool.false_and]
   clear k1 k2 hs
   go_enter Tryz.func191,Tryz.ntmps191
   (refine qw ?_;intros;rename_i hM)
   refine wp_loop_rounds 3 ?_
   (refine Zq (fun K hK=> ?_))
   exact qwf
 ·have d1:decide ((1:Int)≤(s.size:Int))=false:=decide_eq_false (by omega)
  rw[decide_eq_false k1]
  simp only[Bool.false_and]
  clear k1 hs
  go_enter Tryz.func191,Tryz.ntmps191
  (refine qw ?_;intros;rename_i hM)
  refine wp_loop_rounds 3 ?_
  (refine Zq (fun K hK=> ?_))
  exact qwf
end
section
open Go.RowKit
namespace Pt
def scan:List ByteArray→Option (List ByteArray)
 |[]=>some []
 |n::r=>if n.data.toList=[]∨n.data.toList=[46] then scan r else if isName n=true then(scan r).map (n:: ·) else none
def joined(l:List ByteArray):ByteArray:=⟨(Lib.join (l.map (·.data.toList)) [47]).toArray⟩
def cleanOf(p:ByteArray)(l:List ByteArray):ByteArray×Int:=
 if Lib.hasPrefix p.data.toList [47]||decide (8<l.length)||decide (96<(joined l).size) then(⟨#[]⟩,2) else(joined l,0)
def clean(p:ByteArray):ByteArray×Int:=
 match scan (parts p) with
 |none=>(⟨#[]⟩,2)
 |some l=>cleanOf p l
theorem join_len: ∀ (l:List ByteArray),(∀ s∈l,s.size≤32)→(Lib.join (l.map (·.data.toList)) [47]).length≤l.length*33
 |[],_=>by simp[Lib.join_nil]
 |x::r,h=>by
  rw[laDz,Lib.join_cons]
  have hx:=h x (by simp)
  have ht: ∀ (r:List ByteArray),(∀ s∈r,s.size≤32)→(Lib.joinTail [47] (r.map (·.data.toList))).length≤r.length*33:=fun r=>by
   induction r with
   |nil=>intro _;simp[Lib.joinTail]
   |cons y r ih=>
    intro h
    have hy:=h y (by simp)
    have:=ih fun s hs=>h s (by simp[hs])
    unfold Lib.joinTail at this ⊢
    simp only[laDz,List.flatten_cons,laNz,laPz,lcGz]
    rw[Lib.size_eq] at hy
    omega
  have:=ht r fun s hs=>h s (by simp[hs])
  rw[laNz,laPz]
  rw[Lib.size_eq] at hx
  omega
theorem name_small{s:ByteArray}(h:isName s=true):s.size≤32:=by
 unfold isName at h
 simp only[Bool.and_eq_true,decide_eq_true_eq] at h
 exact h.1.2
theorem XH(sep:ByteArray): ∀ (n:Nat) (s:ByteArray),∀ x∈Lib.splitB sep 0 n s,x.size≤s.size
 |0,s,x,hx=>by
  rcases laGz.1 hx with rfl
  exact Nat.le_refl _
 |n+1,s,x,hx=>by
  unfold Lib.splitB at hx
  split at hx
  ·rcases laGz.1 hx with rfl
   exact Nat.le_refl _
  ·rcases laBz.1 hx with rfl|hx
   ·rw[ByteArray.size_extract];omega
   ·have:=XH sep n _ x hx
    rw[ByteArray.size_extract] at this
    omega
theorem parts_len(p:ByteArray)(hp:p.size≤1000000):(parts p).length≤1000001:=by
 unfold parts
 split
 ·simp
 ·rw[Lib.splitB_all slash (by decide) 0 _ p rfl]
  have:=Lib.countB_le slash (by decide) _ p (Nat.le_refl _)
  omega
theorem parts_small(p:ByteArray): ∀ x∈parts p,x.size≤p.size:=fun x hx=>by
 unfold parts at hx
 split at hx
 ·cases hx
 ·exact XH _ _ _ x hx
def From(ps:List ByteArray)(k:Nat)(ks:List ByteArray):Prop:=scan ps=(scan (ps.drop k)).map (ks++ ·)
theorem From.start(ps:List ByteArray):From ps 0 []:=by unfold From;simp
theorem drop_at{ps:List ByteArray}{k:Nat}{x:ByteArray}(h:ps[k]? =some x):ps.drop k=x::ps.drop (k+1):=by
 obtain⟨hk,rfl⟩:=laHz.1 h
 exact lbIz hk
theorem From.skip{ps ks:List ByteArray}{k:Nat}{x:ByteArray}(h:From ps k ks)(hx:ps[k]? =some x)(hs:x.data.toList=[]∨x.data.toList=[46]):From ps (k+1) ks:=by
 unfold From at h ⊢
 rw[h,drop_at hx]
 conv=>lhs;unfold scan
 rw[if_pos hs]
theorem From.keep{ps ks:List ByteArray}{k:Nat}{x:ByteArray}(h:From ps k ks)(hx:ps[k]? =some x)(hs:¬(x.data.toList=[]∨x.data.toList=[46]))(hn:isName x=true):From ps (k+1) (ks++[x]):=by
 unfold From at h ⊢
 rw[h,drop_at hx]
 conv=>lhs;unfold scan
 rw[if_neg hs,if_pos hn,Option.map_map]
 congr 1
 funext l
 simp
theorem From.stop{ps ks:List ByteArray}{k:Nat}{x:ByteArray}(h:From ps k ks)(hx:ps[k]? =some x)(hs:¬(x.data.toList=[]∨x.data.toList=[46]))(hn:isName x=false):scan ps=none:=by
 unfold From at h
 rw[h,drop_at hx]
 conv=>lhs;unfold scan
 rw[if_neg hs,if_neg (by simp[hn])]
 rfl
theorem From.done{ps ks:List ByteArray}(h:From ps ps.length ks):scan ps=some ks:=by
 unfold From at h
 rw[h,lcPz]
 simp[scan]
end Pt
theorem zme{xs:List ByteArray}{x:ByteArray}:xs.map Value.string++[.string x]=(xs++[x]).map Value.string:=by simp
theorem zhH{w0 w:World}{F:List Nat}{L:List Ent}{s:Option (Nat×Nat)}{ks:List ByteArray}(hM:St w0 F w L)(hm: ∀ z∈txL s ks,z∈L)(hok:TxOK s ks)(hsm: ∀ x∈ks,x.size≤32)(hl:ks.length≤1000001):
  An 192 #[slV s ks.length,.string Pt.slash] w (.string (Pt.joined ks)):=by
 have hj:=Pt.join_len ks hsm
 cases s with
 |none=>
  obtain rfl:ks=[]:=lbWz.1 hok.2
  refine(Tryz.strings_Join_none none 0 Pt.slash w).mono ?_
  rintro e w' ⟨rfl,rfl⟩
  exact⟨rfl,Below.refl _ _⟩
 |some gc=>
  obtain⟨g,cap⟩:=gc
  obtain⟨-,h1,h2⟩:=hok
  have hg:(g,true,Res.pre (ks.map Value.string) 9 (cap*1))∈L:=hm _ (laGz.2 rfl)
  refine(Tryz.strings_Join g 0 cap ks Pt.slash w (fun j x hx=> ?_) (hM.lt hg) (by omega) h1 (by show(Lib.join (ks.map (·.data.toList)) [47]).length≤_;omega)).mono fun e w' h=>h
  rw[Nat.zero_add]
  refine Res.cell (hM.holds _ hg) ?_
  show(ks.map Value.string)[j]? =_
  rw[lbCz,hx]
  rfl
theorem Pt.cleanOf_bad{p:ByteArray}{l:List ByteArray}(h:Lib.hasPrefix p.data.toList [47]=true∨8<l.length∨96<(Pt.joined l).size):Pt.cleanOf p l=(⟨#[]⟩,2):=by
 unfold Pt.cleanOf
 rw[if_pos]
 rcases h with h|h|h
 ·simp[h]
 ·simp[h]
 ·simp[h]
theorem Pt.cleanOf_ok{p:ByteArray}{l:List ByteArray}(h1:Lib.hasPrefix p.data.toList [47]=false)(h2:l.length≤8)(h3:(Pt.joined l).size≤96):Pt.cleanOf p l=(Pt.joined l,0):=by
 unfold Pt.cleanOf
 rw[if_neg]
 simp[h1,h2,h3]
theorem zkZ(p:ByteArray)(w0:World)(hp:p.size≤1000000)(hm:Mx w0):An 157 #[.string p] w0 (.tuple #[.string (Pt.clean p).1,.int .i64 (Pt.clean p).2]):=by
 have hM:=St.start w0 []
 have CP:=qh (Xf p w0 hp hm)
 have hlen:(Pt.parts p).length≤1000001:=by
  unfold Pt.parts
  split
  ·simp
  ·rw[Lib.splitB_all Pt.slash (by decide) 0 _ p rfl]
   have:=Lib.countB_le Pt.slash (by decide) _ p (Nat.le_refl _)
   omega
 obtain⟨R0,hR0⟩: ∃ R0,Pt.clean p=R0:=⟨_,rfl⟩
 have HR0:=qh hR0
 rw[hR0]
 have hps: ∀ x∈Pt.parts p,x.size≤maxLen:=fun x hx=>Nat.le_trans (Pt.parts_small p x hx) (by unfold maxLen;omega)
 unfold Pt.clean at HR0
 generalize Pt.parts p=ps at*
 have HS:=qh hps
 clear hR0 hps
 go_enter Tryz.func157,Tryz.ntmps157
 (refine qw ?_;intros;rename_i hM)
 (refine qK (fun R hR=> ?_))
 refine CP.out.mono ?_
 rintro e w' ⟨s,rfl,hk,hN⟩
 refine hR.out _ _ (fun h=>h.below hN.to_below) ?_;clear hR R;replace hM:=hM.madeM hN (zL _ _);clear hN
 rw[laYz] at hM
 obtain⟨sa,sc,hsv,hsa⟩:=zf hk
 rw[hsv]
 have HK:=qh hk
 clear hk CP hsv
 (refine qq ?_)
 (refine qw ?_;intros;rename_i hM)
 go_loopw [4,11] (fun v i wr=> ∃ (k:Nat) (s':Option (Nat×Nat)) (ks:List ByteArray),k≤ps.length∧i= .int .i64 k∧v=slV s' ks.length∧TxOK s' ks∧Pt.From ps k ks∧(∀ x∈ks,Pt.isName x=true)∧ks.length≤k∧St w0 [] wr (txL s ps++txL s' ks)) (fun _ i _=>ps.length - (intOf i).toNat)
 case atStart=>exact⟨0,none,[],by omega,rfl,rfl,⟨rfl,rfl⟩,Pt.From.start ps,nofun,by simp,by simpa[slL] using hM⟩
 case round=>
  clear hM
  obtain⟨k,s',ks,hk,rfl,rfl,hok,hfr,hnm,hkl,hM⟩:=hrel
  have HOK:=qh hok
  have HFR:=qh hfr
  have HNM:=qh hnm
  clear hok hfr hnm
  by_cases hlt:k<ps.length
  ·obtain⟨x,hx⟩:=zK hlt
   cases s with
   |none=>exact absurd HK.out.2 (by omega)
   |some gc=>
   obtain⟨g,cap⟩:=gc
   obtain⟨rfl,rfl⟩:=hsa g cap rfl
   have hx':(ps.map Value.string)[k]? =some (.string x):=by rw[lbCz,hx];rfl
   have k1:(k:Int)<(ps.length:Int):=by omega
   have hxs:=HS.out x (laQz hx)
   have HX:=qh hx
   clear hx hlt
   simp only[slL,lcSz,laIz,laJz] at hM
   by_cases hd:x.data.toList=[]∨x.data.toList=[46]
   ·have HD:=qh hd
    rcases hd with hd|hd
    ·have q1:=Zn hd
     clear hd
     (refine qw ?_;intros;rename_i hM)
     (refine⟨?_,qio⟩;repeat(first|exact⟨⟨k+1,s',ks,by omega,rfl,rfl,HOK.out,HFR.out.skip HX.out HD.out,HNM.out,by omega,hM⟩,rfl⟩|apply Exists.intro))
    ·have q1:=Zt (l:=[]) (by rw[hd];simp)
     have q2:=Zn hd
     clear hd
     (refine qw ?_;intros;rename_i hM)
     (refine⟨?_,qio⟩;repeat(first|exact⟨⟨k+1,s',ks,by omega,rfl,rfl,HOK.out,HFR.out.skip HX.out HD.out,HNM.out,by omega,hM⟩,rfl⟩|apply Exists.intro))
   ·have HD:=qh hd
    have q1:=Zt (l:=[]) (fun h=>hd (.inl h))
    have q2:=Zt (l:=[46]) (fun h=>hd (.inr h))
    clear hd
    have CI:=qh (fun W:World=>zeL x W hxs)
    clear hxs
    cases hb:Pt.isName x with
    |false=>
     rw[hb] at CI
     have HB:=qh hb
     clear hb
     (repeat(first|(first|(refine qW ?_;clear hM;intros;rename_i hM)|((refine qMk ?_);clear hM;intro w bk hM))|((refine qK (fun R hR=> ?_));first|((with_reducible refine(CI.out _).mono ?_);(refine qJ hR hM ?_;clear hR R hM;intro w' hM)))))
     (refine qf ?_)
     have e:=HR0.out
     rw[HFR.out.stop HX.out HD.out HB.out] at e
     rw[←e]
     exact⟨rfl,hM.to_below⟩
    |true=>
     rw[hb] at CI
     have HB:=qh hb
     clear hb
     (repeat(first|(first|(refine qW ?_;clear hM;intros;rename_i hM)|((refine qMk ?_);clear hM;intro w bk hM))|((refine qK (fun R hR=> ?_));first|((with_reducible refine(CI.out _).mono ?_);(refine qJ hR hM ?_;clear hR R hM;intro w' hM)))))
     refine St.append (s:=s') (n:=ks.length) (xs:=ks.map Value.string) rfl hM rfl rfl rfl rfl rfl (by kernel_rfl) qsf HOK.out rfl (hM.news qm) rfl (by rw[zj];omega) (by omega) (fun _=> .inl rfl) ?_
     clear hM;intro w s2 hM hk2 hs2
     simp only[Res.known] at hM hk2
     rw[zme] at hM hk2
     have hle:ks.length+1=(ks++[x]).length:=by simp
     rw[hle] at hk2 ⊢
     have HOK2:=qh hk2
     have HFR2:=qh (HFR.out.keep HX.out HD.out HB.out)
     have HNM2:Hid (∀ y∈ks++[x],Pt.isName y=true):=qh fun y hy=>by
      rcases laAz.1 hy with hy|hy
      ·exact HNM.out y hy
      ·rcases laGz.1 hy with rfl
       exact HB.out
     have hkl2:(ks++[x]).length≤k+1:=by simp;omega
     replace hM:=hM.forget
     generalize ks++[x]=ks2 at*
     clear hk2 hs2 hle
     (refine qq ?_)
     (refine qw ?_;intros;rename_i hM)
     (refine⟨?_,qio⟩;repeat(first|exact⟨⟨k+1,s2,ks2,by omega,rfl,rfl,HOK2.out,HFR2.out,HNM2.out,hkl2,hM⟩,rfl⟩|apply Exists.intro))
  ·have k0:¬((k:Int)<(ps.length:Int)):=by omega
   obtain rfl:k=ps.length:=by omega
   have hsc:=HFR.out.done
   have e:=HR0.out
   rw[hsc] at e
   have HE:Hid (Pt.cleanOf p ks=R0):=qh e
   have hsm: ∀ x∈ks,x.size≤32:=fun x hx=>Pt.name_small (HNM.out x hx)
   have CJ:=qh (fun (W:World) (h:St w0 [] W (txL s ps++txL s' ks))=>zhH h (fun z hz=>laCz _ hz) HOK.out hsm (by omega))
   have CH:=qh (Tryz.strings_HasPrefix p Pt.slash)
   rw[show Pt.slash.data.toList=[47] from rfl] at CH
   have B1:=qh (fun h=>(HE.out).symm.trans (Pt.cleanOf_bad (p:=p) (l:=ks) h))
   have B2:=qh (fun h1 h2 h3=>(HE.out).symm.trans (Pt.cleanOf_ok (p:=p) (l:=ks) h1 h2 h3))
   obtain⟨va,vc,hsv',-⟩:=zf HOK.out
   rw[hsv'] at CJ ⊢
   generalize Lib.hasPrefix p.data.toList [47]=b at*
   generalize Pt.joined ks=J at*
   clear hlt hk hsc e hsm hsa HK HS HFR HNM HOK hsv' hlen
   (refine qw ?_;intros;rename_i hM)
   (refine qCB (CJ.out _ hM) hM ?_;clear hM;intro w' hM)
   cases b with
   |true=>
    have e:=B1.out (.inl rfl)
    (repeat(first|(first|(refine qW ?_;clear hM;intros;rename_i hM)|((refine qMk ?_);clear hM;intro w bk hM))|((refine qK (fun R hR=> ?_));first|(refine(CH.out _).mono ?_;((first|refine qG hR ?_|refine qGr hR ?_);clear hR R)))))
    (refine qf ?_)
    rw[e]
    exact⟨rfl,hM.to_below⟩
   |false=>
    by_cases h8:8<ks.length
    ·have e:=B1.out (.inr (.inl h8))
     have d1:decide ((8:Int)<(ks.length:Int))=true:=decide_eq_true (by omega)
     clear h8
     (repeat(first|(first|(refine qW ?_;clear hM;intros;rename_i hM)|((refine qMk ?_);clear hM;intro w bk hM))|((refine qK (fun R hR=> ?_));first|(refine(CH.out _).mono ?_;((first|refine qG hR ?_|refine qGr hR ?_);clear hR R)))))
     (refine qf ?_)
     rw[e]
     exact⟨rfl,hM.to_below⟩
    ·have d1:decide ((8:Int)<(ks.length:Int))=false:=decide_eq_false (by omega)
     by_cases h96:96<J.size
     ·have e:=B1.out (.inr (.inr h96))
      have d2:decide ((96:Int)<(J.size:Int))=true:=decide_eq_true (by omega)
      clear h8 h96
      (repeat(first|(first|(refine qW ?_;clear hM;intros;rename_i hM)|((refine qMk ?_);clear hM;intro w bk hM))|((refine qK (fun R hR=> ?_));first|(refine(CH.out _).mono ?_;((first|refine qG hR ?_|refine qGr hR ?_);clear hR R)))))
      (refine qf ?_)
      rw[e]
      exact⟨rfl,hM.to_below⟩
     ·have e:=B2.out rfl (by omega) (by omega)
      have d2:decide ((96:Int)<(J.size:Int))=false:=decide_eq_false (by omega)
      clear h8 h96
      (repeat(first|(first|(refine qW ?_;clear hM;intros;rename_i hM)|((refine qMk ?_);clear hM;intro w bk hM))|((refine qK (fun R hR=> ?_));first|(refine(CH.out _).mono ?_;((first|refine qG hR ?_|refine qGr hR ?_);clear hR R)))))
      (refine qf ?_)
      rw[e]
      exact⟨rfl,hM.to_below⟩
end
section
open Go.RowKit
namespace Pt
def last(p:ByteArray):Int:=Lib.lastIndex p.data.toList [47]
def split(p:ByteArray):ByteArray×ByteArray:=if last p<0 then(⟨#[]⟩,p) else(p.extract 0 (last p).toNat,p.extract ((last p).toNat+1) p.size)
theorem zlY{i:Int}(h:i= -1):i<0:=by omega
theorem last_lt(p:ByteArray):last p<0∨ ∃ k:Nat,last p=k∧k<p.size:=by
 unfold last Lib.lastIndex
 split
 ·rename_i h
  simp only[laPz,lcGz] at h
  rcases Lib.lastOcc_spec p.data.toList [47] (p.data.toList.length - [47].length+1) with ⟨h1,-⟩|⟨i,h1,h2,-⟩
  ·left;exact zlY h1
  ·right
   refine⟨i,h2, ?_⟩
   rw[Lib.size_eq]
   simp only[laPz,lcGz] at h1
   omega
 ·left;decide
def isPath(p:ByteArray):Bool:=decide ((clean p).2=0)&&((clean p).1.data.toList==p.data.toList)&& !(p.data.toList==[])
end Pt
theorem zks(p:ByteArray)(w:World)(hp:p.size≤1000000):An 158 #[.string p] w (.tuple #[.string (Pt.split p).1,.string (Pt.split p).2]):=by
 have hM:=St.start w []
 have C:=Tryz.strings_LastIndex p Pt.slash (by omega) w
 rw[show Pt.slash.data.toList=[47] from rfl] at C
 change Calls _ _ _ _ fun e w'=>e= .returned (.int .i64 (Pt.last p))∧w'=w at C
 unfold Pt.split
 rcases Pt.last_lt p with h|⟨k,hk,hlt⟩
 ·rw[if_pos h]
  have d:decide (Pt.last p<0)=true:=decide_eq_true h
  generalize Pt.last p=i at*
  clear h
  go_enter Tryz.func158,Tryz.ntmps158
  (repeat(first|(first|(refine qW ?_;clear hM;intros;rename_i hM))|((refine qK (fun R hR=> ?_));first|(refine(C).mono ?_;((first|refine qG hR ?_|refine qGr hR ?_);clear hR R)))))
  exact qfb
 ·rw[if_neg (by omega),hk,Int.toNat_natCast]
  rw[hk] at C
  have d:decide ((k:Int)<0)=false:=decide_eq_false (by omega)
  have d1:(k:Int)≤(p.size:Int):=by omega
  have d2:((k+1:Nat):Int)≤(p.size:Int):=by omega
  have d4:(0:Int)≤(k:Int)+1:=by omega
  have d3:(k:Int)+1≤(p.size:Int):=by omega
  clear hk
  go_enter Tryz.func158,Tryz.ntmps158
  (repeat(first|(first|(refine qW ?_;clear hM;intros;rename_i hM))|((refine qK (fun R hR=> ?_));first|(refine(C).mono ?_;((first|refine qG hR ?_|refine qGr hR ?_);clear hR R)))))
  exact qfb
theorem zbv(p:ByteArray)(w:World)(hp:p.size≤1000000)(hm:Mx w):An 103 #[.string p] w (.bool (Pt.isPath p)):=by
 have hM:=St.start w []
 have C:=qh (zkZ p w hp hm)
 unfold Pt.isPath
 generalize Pt.clean p=r at*
 obtain⟨q,E⟩:=r
 simp only at C ⊢
 by_cases h0:E=0
 ·subst h0
  by_cases h1:q.data.toList=p.data.toList
  ·have q1:(q.toList==p.toList)=true:=by rw[ByteArray.toList_eq,ByteArray.toList_eq,h1];simp
   by_cases h2:p.data.toList=[]
   ·have q2:=Zn h2
    rw[h1,h2]
    clear h1 h2
    go_enter Tryz.func103,Tryz.ntmps103
    (repeat(first|(first|(refine qW ?_;clear hM;intros;rename_i hM))|((refine qK (fun R hR=> ?_));first|((with_reducible refine(C.out).mono ?_);(refine qJ hR hM ?_;clear hR R hM;intro w' hM)))))
    exact qfb
   ·have q2:=Zt h2
    have e2:(p.data.toList==[])=false:=qne.2 h2
    rw[h1,e2]
    clear h1 h2 e2
    go_enter Tryz.func103,Tryz.ntmps103
    (repeat(first|(first|(refine qW ?_;clear hM;intros;rename_i hM))|((refine qK (fun R hR=> ?_));first|((with_reducible refine(C.out).mono ?_);(refine qJ hR hM ?_;clear hR R hM;intro w' hM)))))
    (refine qf ?_)
    exact⟨by simp[tup],hM.to_below⟩
  ·have q1:(q.toList==p.toList)=false:=by rw[ByteArray.toList_eq,ByteArray.toList_eq];exact qne.2 h1
   have e1:(q.data.toList==p.data.toList)=false:=qne.2 h1
   rw[e1]
   clear h1 e1
   go_enter Tryz.func103,Tryz.ntmps103
   (repeat(first|(first|(refine qW ?_;clear hM;intros;rename_i hM))|((refine qK (fun R hR=> ?_));first|((with_reducible refine(C.out).mono ?_);(refine qJ hR hM ?_;clear hR R hM;intro w' hM)))))
   (refine qf ?_)
   exact⟨by simp[tup],hM.to_below⟩
 ·have q0:(E==0)=false:=qne.2 h0
  rw[decide_eq_false h0]
  clear h0
  go_enter Tryz.func103,Tryz.ntmps103
  (repeat(first|(first|(refine qW ?_;clear hM;intros;rename_i hM))|((refine qK (fun R hR=> ?_));first|((with_reducible refine(C.out).mono ?_);(refine qJ hR hM ?_;clear hR R hM;intro w' hM)))))
  (refine qf ?_)
  exact⟨by simp[tup],hM.to_below⟩
structure OpD where
 kind:Int
 path:ByteArray
 dest:ByteArray
 h:Int
 at_:Int
 n:Int
 data:ByteArray
 pid:Int
 birth:Int
def OpD.cells(o:OpD):List Value:=[.int .i64 o.kind,.string o.path,.string o.dest,.int .i64 o.h,.int .i64 o.at_,.int .i64 o.n,.string o.data,.int .i64 o.pid,.int .i64 o.birth]
structure OpD.Ok (o:OpD):Prop where
 kind:Fits o.kind
 h:Fits o.h
 at_:Fits o.at_
 n:Fits o.n
 path:o.path.size≤1000000
 dest:o.dest.size≤1000000
 data:o.data.size≤maxLen
namespace Pt
def right(o:OpD):Bool:=
 if o.kind=5∨o.kind=6∨o.kind=7∨o.kind=8∨o.kind=9 then true
 else if o.kind=1∨o.kind=2∨o.kind=3∨o.kind=4∨o.kind=11 then isPath o.path
 else if o.kind=10∨o.kind=12 then isPath o.path&&isPath o.dest
 else if o.kind=13 then o.path.data.toList==[]||isPath o.path
 else false
end Pt
end
section
open Go.RowKit Go.Maps
structure FsD where
 t:TabD
 h:List (Int×List Int)
structure ResD where
 err:Int
 n:Int
 data:ByteArray
 names:List ByteArray
namespace Fs
def z9:List Int:=[0,0,0,0,0,0,0,0,0]
def hOf(h:List (Int×List Int))(o:Int):List Int:=
 match h.find? fun p=>p.1==o with
 |some p=>p.2
 |none=>z9
def ins(x:Int×List Int):List (Int×List Int)→List (Int×List Int)
 |[]=>[x]
 |y::r=>if x.1<y.1 then x::y::r else y::ins x r
def del(h:List (Int×List Int))(o:Int):List (Int×List Int):=h.filter fun p=> !(p.1==o)
def put(h:List (Int×List Int))(o:Int)(l:List Int):List (Int×List Int):=ins (o,l) (del h o)
def free(d:FsD)(o:Int):Nat:=(1+Lib.idxOf ((hOf d.h o).drop 1) 0).toNat
def walkL(t:TabD):Int→List ByteArray→Int×Int
 |id,[]=>(id,0)
 |id,s::r=>if In.findE t id s=0 then walkL t (In.findN t id s) r else(0,In.findE t id s)
def walk(d:FsD)(p:ByteArray):Int×Int:=walkL d.t 1 (Pt.parts p)
def at_(d:FsD)(p:ByteArray):(Int×ByteArray)×Int:=(((walk d (Pt.split p).1).1,(Pt.split p).2),(walk d (Pt.split p).1).2)
def errR(e:Int):ResD:=⟨e,0,⟨#[]⟩,[]⟩
def gives(d:FsD)(o id:Int):ResD×FsD:=
 if(In.hold d.t id).1=0 then(⟨0,(free d o:Int),⟨#[]⟩,[]⟩,⟨(In.hold d.t id).2,put d.h o ((hOf d.h o).set (free d o) id)⟩)
 else(errR (In.hold d.t id).1,⟨(In.hold d.t id).2,d.h⟩)
def shut(h:List (Int×List Int))(o:Int)(l:List Int):List (Int×List Int):=if l=z9 then del (put h o l) o else put h o l
theorem shut_yes{l:List Int}(e:l=z9)(h:List (Int×List Int))(o:Int):shut h o l=del (put h o l) o:=if_pos e
theorem shut_no{l:List Int}(e:¬l=z9)(h:List (Int×List Int))(o:Int):shut h o l=put h o l:=if_neg e
def closes(d:FsD)(o:Int)(n:Nat):FsD:=⟨(In.drop d.t ((hOf d.h o).getD n 0)).2,shut d.h o ((hOf d.h o).set n 0)⟩
def held(d:FsD)(o H:Int):Int:=if 1≤H∧H≤8 then(hOf d.h o).getD H.toNat 0 else 0
def handled(d:FsD)(o:Int)(p:OpD):ResD×FsD:=
 if held d o p.h=0 then(errR 13,d)
 else if p.kind=5 then(errR 0,closes d o p.h.toNat)
 else if p.kind=6 then(⟨In.readE d.t (held d o p.h) p.at_ p.n,0,In.read d.t (held d o p.h) p.at_ p.n,[]⟩,d)
 else if p.kind=7 then(errR (In.write d.t (held d o p.h) p.at_ p.data).1,⟨(In.write d.t (held d o p.h) p.at_ p.data).2,d.h⟩)
 else if p.kind=8 then(errR (In.trunc d.t (held d o p.h) p.n).1,⟨(In.trunc d.t (held d o p.h) p.n).2,d.h⟩)
 else(⟨In.readE d.t (held d o p.h) 0 1048576,(In.read d.t (held d o p.h) 0 1048576).size,⟨#[]⟩,[]⟩,d)
def opens (d : FsD) (o : Int) (p : OpD) : ResD × FsD :=
  if free d o = 0 then (errR 5, d)
  else if (at_ d p.path).2 ≠ 0 then (errR (at_ d p.path).2, d)
  else if p.kind = 3 then
    (if (In.make d.t (at_ d p.path).1.1 (at_ d p.path).1.2 false).2.1 ≠ 0 then (errR (In.make d.t (at_ d p.path).1.1 (at_ d p.path).1.2 false).2.1, ⟨(In.make d.t (at_ d p.path).1.1 (at_ d p.path).1.2 false).2.2, d.h⟩)
     else gives ⟨(In.make d.t (at_ d p.path).1.1 (at_ d p.path).1.2 false).2.2, d.h⟩ o (In.make d.t (at_ d p.path).1.1 (at_ d p.path).1.2 false).1)
  else if In.findE d.t (at_ d p.path).1.1 (at_ d p.path).1.2 ≠ 0 then (errR (In.findE d.t (at_ d p.path).1.1 (at_ d p.path).1.2), d)
  else gives d o (In.findN d.t (at_ d p.path).1.1 (at_ d p.path).1.2)
def namedAt (d : FsD) (p : OpD) (dir : Int) (s : ByteArray) : Int × TabD :=
  if p.kind = 1 then ((In.make d.t dir s true).2.1, (In.make d.t dir s true).2.2)
  else if p.kind = 2 then In.remove d.t dir s
  else if p.kind = 11 then In.unlink d.t dir s
  else if p.kind = 10 then
    (if In.findE d.t dir s ≠ 0 then (In.findE d.t dir s, d.t)
     else if (at_ d p.dest).2 ≠ 0 then ((at_ d p.dest).2, d.t)
     else In.link d.t (In.findN d.t dir s) (at_ d p.dest).1.1 (at_ d p.dest).1.2)
  else if (at_ d p.dest).2 ≠ 0 then ((at_ d p.dest).2, d.t)
  else In.rename d.t dir s (at_ d p.dest).1.1 (at_ d p.dest).1.2
def named(d:FsD)(p:OpD):Int×TabD:=if(at_ d p.path).2≠0 then((at_ d p.path).2,d.t) else namedAt d p (at_ d p.path).1.1 (at_ d p.path).1.2
def lists(d:FsD)(p:ByteArray):ResD:=
 if(walk d p).2≠0 then errR (walk d p).2 else⟨In.listE d.t (walk d p).1,0,⟨#[]⟩,In.list d.t (walk d p).1⟩
def do_(d:FsD)(o:Int)(p:OpD):ResD×FsD:=
 if Pt.right p=false then(errR 1,d)
 else if p.kind=3∨p.kind=4 then opens d o p
 else if p.kind=5∨p.kind=6∨p.kind=7∨p.kind=8∨p.kind=9 then handled d o p
 else if p.kind=13 then(lists d p.path,d)
 else(errR (named d p).1,⟨(named d p).2,d.h⟩)
def exitL(o:Int):List Int→Nat→FsD→FsD
 |[],_,d=>d
 |i::r,n,d=>exitL o r (n+1) (if i≠0 then closes d o n else d)
def exit(d:FsD)(o:Int):FsD:=exitL o (hOf d.h o) 0 d
def new(q:Int):FsD:=⟨In.new q,[]⟩
structure Inv (N:Nat) (d:FsD):Prop where
 tbl:In.Inv N d.t
 rows: ∀ p∈d.h,p.2.length=9∧ ∀ i∈p.2,0≤i∧i≤4611686018427387904
 len:d.h.length≤N
end Fs
/-! ### handles in memory -/
def rowV(l:List Int):Value:= .agg (l.map (Value.int .i64)).toArray
def ZM(h:List (Int×List Int)):List (Lit×Value):=h.map fun p=>(.int .i64 p.1,rowV p.2)
theorem zI(h:List (Int×List Int))(o:Int):yb (ZM h) (.int .i64 o) (rowV Fs.z9)=rowV (Fs.hOf h o):=by
 unfold yb ZM Fs.hOf
 rw[ldFz]
 rw[show(fun p:Lit×Value=>p.1.sameKey (.int .i64 o))∘(fun p:Int×List Int=>(Lit.int .i64 p.1,rowV p.2))=fun p=>p.1==o from by
  funext p
  show decide (IntKind.i64=IntKind.i64∧p.1=o)=(p.1==o)
  simp[Bool.beq_eq_decide_eq]]
 cases h.find? fun p=>p.1==o<;> rfl
theorem zgj(h:List (Int×List Int))(o:Int):delL (.int .i64 o) (ZM h)=ZM (Fs.del h o):=by
 unfold delL ZM Fs.del
 rw[ldJz]
 congr 2
 funext p
 show(!decide (IntKind.i64=IntKind.i64∧p.1=o))= !(p.1==o)
 simp[Bool.beq_eq_decide_eq]
theorem zhf(o:Int)(l:List Int): ∀ h:List (Int×List Int),insL (.int .i64 o,rowV l) (ZM h)=ZM (Fs.ins (o,l) h)
 |[]=>rfl
 |y::r=>by
  have ih:=zhf o l r
  unfold ZM at ih ⊢
  simp only[laDz,insL,Fs.ins]
  rw[ih]
  have e:(Lit.int .i64 o).before (.int .i64 y.1)=decide (o<y.1):=by simp[Lit.before]
  rw[e]
  by_cases h:o<y.1
  ·simp[h]
  ·simp[h]
theorem zmZ(h:List (Int×List Int))(o:Int)(l:List Int):putL (.int .i64 o) (rowV l) (ZM h)=ZM (Fs.put h o l):=by
 unfold putL Fs.put
 rw[zgj,zhf]
namespace Fs
theorem hOf_row{N:Nat}{d:FsD}(h:Inv N d)(o:Int):(hOf d.h o).length=9∧ ∀ i∈hOf d.h o,0≤i∧i≤4611686018427387904:=by
 unfold hOf
 cases hf:d.h.find? fun p=>p.1==o with
 |none=>
  refine⟨rfl,fun i hi=> ?_⟩
  unfold z9 at hi
  simp at hi
  omega
 |some p=>exact h.rows p (laUz hf)
theorem mem_ins{x p:Int×List Int}: ∀ {h},p∈ins x h↔p=x∨p∈h
 |[]=>by simp[ins]
 |y::r=>by
  unfold ins
  split
  ·simp
  ·simp only[laBz,mem_ins (h:=r)]
   constructor<;> (intro h;rcases h with h|h|h<;> simp[h])
theorem XC(x:Int×List Int): ∀ h,(ins x h).length=h.length+1
 |[]=>rfl
 |y::r=>by
  unfold ins
  split
  ·simp
  ·simp[XC x r]
theorem xD(h:List (Int×List Int))(o:Int)(l:List Int):(put h o l).length≤h.length+1:=by
 unfold put
 rw[XC]
 have:(del h o).length≤h.length:=lbYz _ _
 omega
theorem zdi{h:List (Int×List Int)}(hr: ∀ p∈h,p.2.length=9∧ ∀ i∈p.2,0≤i∧i≤4611686018427387904){o:Int}{l:List Int}(hl:l.length=9∧ ∀ i∈l,0≤i∧i≤4611686018427387904):
  ∀ p∈put h o l,p.2.length=9∧ ∀ i∈p.2,0≤i∧i≤4611686018427387904:=fun p hp=>by
 rcases mem_ins.1 hp with rfl|hp
 ·exact hl
 ·exact hr p (lbHz.1 hp).1
theorem zhj{h:List (Int×List Int)}(hr: ∀ p∈h,p.2.length=9∧ ∀ i∈p.2,0≤i∧i≤4611686018427387904)(o:Int): ∀ p∈del h o,p.2.length=9∧ ∀ i∈p.2,0≤i∧i≤4611686018427387904:=fun p hp=>hr p (lbHz.1 hp).1
theorem zci(x:Int): ∀ (l:List Int) (i:Nat),-1≤Lib.idxFrom l x i∧Lib.idxFrom l x i<(i+l.length:Nat)
 |[],i=>by simp[Lib.idxFrom];omega
 |y::r,i=>by
  have ih:=zci x r (i+1)
  unfold Lib.idxFrom
  split
  ·simp only[laPz];omega
  ·simp only[laPz];omega
theorem idx_lt{d:FsD}{N:Nat}(h:Inv N d)(o:Int): -1≤Lib.idxOf ((hOf d.h o).drop 1) 0∧Lib.idxOf ((hOf d.h o).drop 1) 0<8:=by
 have h9:=(hOf_row h o).1
 have:=zci 0 ((hOf d.h o).drop 1) 0
 rw[lbXz,h9] at this
 unfold Lib.idxOf
 omega
theorem free_le{d:FsD}{N:Nat}(h:Inv N d)(o:Int):free d o≤8:=by
 have:=idx_lt h o
 unfold free
 omega
end Fs
end
section
open Go.RowKit Go.Maps
def xP(β:Int→Nat×Nat)(n:NodeD):List Ent:=
 [((β n.id).1,true,.cells [.bool n.dir,.int .i64 n.links,.int .i64 n.holds,.string n.data,.map (some (β n.id).2)] 166),((β n.id).2,true,mapR Tryz.prog 9 (Zk n.names))]
def tblE(g mb:Nat)(t:TabD):Ent:=(g,true,.cells [.int .i64 t.quota,.int .i64 t.used,.int .i64 t.last,.map (some mb)] 162)
def tblL(g mb:Nat)(β:Int→Nat×Nat)(t:TabD):List Ent:=tblE g mb t::(mb,true,mapR Tryz.prog 3 (zz β t.nodes))::t.nodes.flatMap (xP β)
section
variable {w w':World}{g mb:Nat}{β:Int→Nat×Nat}{t t':TabD}
theorem Yc:ze (tblL g mb β t)=foot g mb β t.nodes:=by
 unfold ze tblL foot tblE
 simp only[laDz,List.cons.injEq,true_and]
 rw[List.map_flatMap]
 rfl
theorem zD:zO (tblL g mb β t):=fun x hx=>by
 unfold tblL at hx
 rcases laBz.1 hx with rfl|hx
 ·rfl
 rcases laBz.1 hx with rfl|hx
 ·rfl
 obtain⟨n,hn,hx⟩:=laZz.1 hx
 unfold xP at hx
 simp only[laBz,lbRz,or_false] at hx
 rcases hx with rfl|rfl<;> rfl
theorem TblAt.at_(h:TblAt w g mb β t):At (tblL g mb β t) w:=by
 refine⟨fun x hx=> ?_,by rw[Yc];exact h.apart⟩
 unfold tblL at hx
 rcases laBz.1 hx with rfl|hx
 ·exact h.row
 rcases laBz.1 hx with rfl|hx
 ·exact Yx h.map
 obtain⟨n,hn,hx⟩:=laZz.1 hx
 unfold xP at hx
 simp only[laBz,lbRz,or_false] at hx
 rcases hx with rfl|rfl
 ·exact(h.node n hn).row
 ·exact Yx (h.node n hn).names
theorem At.tbl(h:At (tblL g mb β t) w):TblAt w g mb β t where
 row:=h.has (tblE g mb t) (by unfold tblL;exact .head _)
 map:=ZU (k:=3) (P:=Tryz.prog) (h.has (mb,true,mapR Tryz.prog 3 (zz β t.nodes)) (by unfold tblL;exact .tail _ (.head _)))
 node:=fun n hn=>by
  have h1:=h.has ((β n.id).1,true,.cells [.bool n.dir,.int .i64 n.links,.int .i64 n.holds,.string n.data,.map (some (β n.id).2)] 166) (by
   unfold tblL;refine .tail _ (.tail _ (laZz.2 ⟨n,hn, ?_⟩));unfold xP;exact .head _)
  have h2:=h.has ((β n.id).2,true,mapR Tryz.prog 9 (Zk n.names)) (by
   unfold tblL;refine .tail _ (.tail _ (laZz.2 ⟨n,hn, ?_⟩));unfold xP;exact .tail _ (.head _))
  exact⟨h1,ZU h2⟩
 apart:=by have:=h.nd;rwa [Yc] at this
theorem Goes.st(h:Goes w g mb β t w' t'): ∃ β',St w (ze (tblL g mb β t)) w' (tblL g mb β' t'):=by
 obtain⟨β',h1,h2,h3⟩:=h
 refine⟨β',by rw[Yc];exact h2,h1.at_.has,h1.at_.nd,fun x hx _=> ?_⟩
 rw[Yc]
 refine h3 x.1 ?_
 rw[←Yc]
 exact laLz hx
theorem Step.st(h:Step w w' g mb β t t'): ∃ β',St w (ze (tblL g mb β t)) w' (tblL g mb β' t'):=h.goes.st
end
end
theorem qH1{p q:Prop}(k:q)(h:Hd q→p:=by
 intro q1k
 first|((first|refine St.lookup rfl hM rfl rfl rfl rfl qm zq Tryz.underlying42 zJ (keyOf_int_mk Tryz.underlying3 (by assumption)) ((zI _ _).trans (by assumption)) ?_|refine St.lookup1 rfl rfl rfl rfl qm zq Tryz.underlying42 zJ (keyOf_int_mk Tryz.underlying3 (by assumption)) ((zI _ _).trans (by assumption)) ?_);(try simp only[qp]))|fail
 exact q1k.out):p:=h ⟨k⟩
section
open Go.RowKit Go.Maps
structure FsX where
 f:Nat
 hb:Nat
 g:Nat
 mb:Nat
def fsL(x:FsX)(β:Int→Nat×Nat)(d:FsD):List Ent:=(x.f,true,.cells [.pointer (some ⟨x.g,0,none⟩),.map (some x.hb)] 44)::(x.hb,true,mapR Tryz.prog 3 (ZM d.h))::tblL x.g x.mb β d.t
theorem zr(x:FsX)(β:Int→Nat×Nat)(d:FsD):zO (fsL x β d):=fun y hy=>by
 unfold fsL at hy
 rcases laBz.1 hy with rfl|hy
 ·rfl
 rcases laBz.1 hy with rfl|hy
 ·rfl
 exact zD y hy
structure FsAt (N:Nat) (x:FsX) (β:Int→Nat×Nat) (d:FsD) (w:World):Prop where
 at_:At (fsL x β d) w
 inv:Fs.Inv N d
 mx:Mx w
 zero:0∉ze (fsL x β d)
section
variable {N:Nat}{x:FsX}{β:Int→Nat×Nat}{d:FsD}{w w' w0:World}{F:List Nat}{L L' M':List Ent}
theorem FsAt.below(h:FsAt N x β d w)(hb:Below w.heap.size w w'):FsAt N x β d w':=⟨h.at_.below hb,h.inv,h.mx.below hb,h.zero⟩
theorem FsAt.tbl(h:FsAt N x β d w):TblAt w x.g x.mb β d.t:=by
 refine At.tbl ⟨fun y hy=>h.at_.has y (by unfold fsL;exact .tail _ (.tail _ hy)), ?_⟩
 have:=h.at_.nd
 unfold fsL ze at this
 simp only[laDz,laTz] at this
 exact this.2.2
theorem St.fs(hM:St w0 F w L)(hs:Part L (fsL x β d))(hI:Fs.Inv N d)(hm:Mx w0)(h0:0∉F):FsAt N x β d w:=by
 refine⟨hM.part hs,hI,hM.mx hm h0,fun h=> ?_⟩
 obtain⟨y,hy,e⟩:=laKz.1 h
 obtain⟨A,B,rfl⟩:=hs.split
 rcases hM.own y (by simp[hy]) (zr x β d y hy) with h1|h1
 ·rw[e] at h1;exact h0 h1
 ·have:=hm.pos
  omega
theorem zJ(w:World):(zeroValue 117).run Tryz.prog w= .ok (rowV Fs.z9) w:=by kernel_rfl
theorem yy(h:FsAt N x β d w):Calls Tryz.prog 61 #[.pointer (some ⟨x.f,0,none⟩)] w fun e w'=>e= .returned (.bool true)∧w=w':=by
 have hM:=h.at_.ro
 unfold fsL at hM
 simp only[laDz,zx] at hM
 clear h
 go_enter Tryz.func61,Tryz.ntmps61
 (refine qw ?_;intros;rename_i hM)
 (refine qf ?_)
 exact⟨rfl,rfl⟩
theorem Pt.split_small(p:ByteArray):(Pt.split p).1.size≤p.size∧(Pt.split p).2.size≤p.size:=by
 unfold Pt.split
 split
 ·exact⟨Nat.zero_le _,Nat.le_refl _⟩
 ·simp only[ByteArray.size_extract]
  omega
theorem row9{l:List Int}(h:l.length=9): ∃ a0 a1 a2 a3 a4 a5 a6 a7 a8,l=[a0,a1,a2,a3,a4,a5,a6,a7,a8]:=by
 match l,h with
 |[a0,a1,a2,a3,a4,a5,a6,a7,a8],_=>exact⟨a0,a1,a2,a3,a4,a5,a6,a7,a8,rfl⟩
theorem zgB(h:FsAt N x β d w){o:Int}(ho:Fits o):An 104 #[.pointer (some ⟨x.f,0,none⟩),.int .i64 o] w (.int .i64 (Fs.free d o)):=by
 have hM:=h.at_.ro
 unfold fsL at hM
 simp only[laDz,zx] at hM
 have hi:=Fs.idx_lt h.inv o
 have hfr:((Fs.free d o:Nat):Int)=1+Lib.idxOf ((Fs.hOf d.h o).drop 1) 0:=by unfold Fs.free;omega
 rw[hfr]
 obtain⟨a0,a1,a2,a3,a4,a5,a6,a7,a8,hl⟩:=row9 (Fs.hOf_row h.inv o).1
 have hrow:rowV (Fs.hOf d.h o)= .agg #[.int .i64 a0,.int .i64 a1,.int .i64 a2,.int .i64 a3,.int .i64 a4,.int .i64 a5,.int .i64 a6,.int .i64 a7,.int .i64 a8]:=by rw[hl];rfl
 rw[hl] at hi ⊢
 simp only[ldSz,ldBz] at hi ⊢
 clear h hfr hl
 have C:=qh (fun b W hc=>Tryz.slices_Index_int b 1 8 8 [a1,a2,a3,a4,a5,a6,a7,a8] 0 W (Nat.le_refl _) (by decide) hc)
 rw[show([a1,a2,a3,a4,a5,a6,a7,a8]:List Int).take 8=[a1,a2,a3,a4,a5,a6,a7,a8] from rfl] at C
 generalize hI:Lib.idxOf [a1,a2,a3,a4,a5,a6,a7,a8] 0=r at*
 clear hI
 have hw:IntKind.i64.wrap (1+r)=1+r:=Za _ (by omega)
 have hmx:max 0 (1+r)=1+r:=by omega
 go_enter Tryz.func104,Tryz.ntmps104
 (repeat(first|(refine qW ?_;intros;rename_i hM)|(refine qMk ?_;clear hM;intro w bk hM)))
 ((first|refine St.lookup rfl hM rfl rfl rfl rfl qm zq Tryz.underlying42 zJ (keyOf_int_mk Tryz.underlying3 (by assumption)) ((zI _ _).trans (by assumption)) ?_|refine St.lookup1 rfl rfl rfl rfl qm zq Tryz.underlying42 zJ (keyOf_int_mk Tryz.underlying3 (by assumption)) ((zI _ _).trans (by assumption)) ?_);(refine qq ?_))
 (repeat(first|(refine qW ?_;intros;rename_i hM)|(refine qMk ?_;clear hM;intro w bk hM)))
 (refine qK (fun R hR=> ?_))
 refine(C.out bk _ (fun j hj=>Res.cell (hM.holds _ (.head _)) (by
  have:j=0∨j=1∨j=2∨j=3∨j=4∨j=5∨j=6∨j=7:=by simp only[laPz,lcGz] at hj;omega
  rcases this with rfl|rfl|rfl|rfl|rfl|rfl|rfl|rfl<;> rfl))).mono ?_
 ((first|refine qG hR ?_|refine qGr hR ?_);clear hR R)
 (repeat(first|(refine qW ?_;intros;rename_i hM)|(refine qMk ?_;clear hM;intro w bk hM)))
 exact qfb
theorem xO{M:Nat}{t:TabD}(I:In.Inv M t){id:Int}{s:ByteArray}(h:In.findE t id s=0):1≤In.findN t id s∧In.findN t id s≤M:=by
 obtain⟨e,h1,h2,h3,h4⟩:=In.findE_ok h
 obtain⟨p,hp,h5⟩:=leads_mem h3
 obtain⟨n,hn⟩:=I.leads e (zk h1).1 p hp
 obtain⟨hm,hi⟩:=zk hn
 have h6:=I.pos n hm
 have h7:=I.last
 rw[h4,←h5,←hi]
 omega
theorem zaH{M:Nat}{t:TabD}(I:In.Inv M t): ∀ (l:List ByteArray) (id:Int),0≤id∧id≤M→0≤(Fs.walkL t id l).1∧(Fs.walkL t id l).1≤M
 |[],id,h=>h
 |s::r,id,h=>by
  unfold Fs.walkL
  split
  ·rename_i h0
   have:=xO I h0
   exact zaH I r _ (by omega)
  ·show(0:Int)≤0∧(0:Int)≤M
   omega
theorem zgX(h:FsAt N x β d w)(hN:N≤1000000000)(p:ByteArray)(hp:p.size≤1000000):An 112 #[.pointer (some ⟨x.f,0,none⟩),.string p] w (.tuple #[.int .i64 (Fs.walk d p).1,.int .i64 (Fs.walk d p).2]):=by
 have hM:=h.at_.ro
 unfold fsL at hM
 simp only[laDz,zx] at hM
 have HF:=qh h
 have CP:=qh (Xf p w hp h.mx)
 have hsm:=Pt.parts_small p
 have hlen:(Pt.parts p).length≤1000001:=Pt.parts_len p hp
 obtain⟨R0,hR0⟩: ∃ R0,Fs.walk d p=R0:=⟨_,rfl⟩
 rw[hR0]
 unfold Fs.walk at hR0
 generalize Pt.parts p=ps at*
 have HS:=qh hsm
 have HR:=qh hR0
 clear hsm hR0 h
 go_enter Tryz.func112,Tryz.ntmps112
 (refine qw ?_;intros;rename_i hM)
 (refine qK (fun R hR=> ?_))
 refine CP.out.mono ?_
 rintro e w' ⟨s,rfl,hk,hN⟩
 refine hR.out _ _ (fun h=>h.below hN.to_below) ?_;clear hR R;replace hM:=hM.madeM hN (zL _ _);clear hN CP
 obtain⟨sa,sc,hsv,hsa⟩:=zf hk
 rw[hsv]
 have HK:=qh hk
 clear hk hsv
 (refine qq ?_)
 (refine qw ?_;intros;rename_i hM)
 go_loopw [6,14] (fun v i wr=> ∃ (k:Nat) (id:Int),k≤ps.length∧i= .int .i64 k∧v= .int .i64 id∧(0≤id∧id≤N)∧Fs.walkL d.t id (ps.drop k)=R0∧St w [] wr (txL s ps++((x.f,false,Res.cells [.pointer (some ⟨x.g,0,none⟩),.map (some x.hb)] 44)::(x.hb,false,mapR Tryz.prog 3 (ZM d.h))::List.map zx (tblL x.g x.mb β d.t)))) (fun _ i _=>ps.length - (intOf i).toNat)
 case atStart=>exact⟨0,1,by omega,rfl,rfl,⟨by decide,by have:=HF.out.inv.tbl.last;omega⟩,by rw[ldBz];exact HR.out,hM⟩
 case round=>
  clear hM
  obtain⟨k,id,hk,rfl,rfl,hid,hwl,hM⟩:=hrel
  have HW:=qh hwl
  have HID:=qh hid
  clear hwl hid
  by_cases hlt:k<ps.length
  ·obtain⟨y,hy⟩:=zK hlt
   cases s with
   |none=>exact absurd HK.out.2 (by omega)
   |some gc=>
   obtain⟨g,cap⟩:=gc
   obtain⟨rfl,rfl⟩:=hsa g cap rfl
   have hy':(ps.map Value.string)[k]? =some (.string y):=by rw[lbCz,hy];rfl
   have k1:(k:Int)<(ps.length:Int):=by omega
   have hys:y.size≤maxLen:=Nat.le_trans (HS.out y (laQz hy)) (by unfold maxLen;omega)
   have C:=qh (fun (W:World) (hb:Below w.heap.size w W)=>YV (HF.out.below hb).tbl (YP HF.out.inv.tbl hN).q0 (dir:=id) (Zy (by have:=HID.out;omega) (by have:=HID.out;omega)) hys)
   have hw':=HW.out
   rw[Pt.drop_at hy] at hw'
   unfold Fs.walkL at hw'
   have HW':=qh hw'
   clear hw' hy hlt hys
   simp only[slL,lcSz,laIz,laJz] at hM
   by_cases h0:In.findE d.t id y=0
   ·have hp:=xO HF.out.inv.tbl h0
    have HP:=qh hp
    have e:=HW'.out
    rw[if_pos h0] at e
    have HE:=qh e
    rw[h0] at C
    clear hp h0 e
    generalize In.findN d.t id y=id2 at*
    (repeat(first|(first|(refine qW ?_;clear hM;intros;rename_i hM))|((refine qK (fun R hR=> ?_));first|((with_reducible refine(C.out _ hM.to_below).mono ?_);(refine qJ hR hM ?_;clear hR R hM;intro w' hM)))))
    (refine⟨?_,qio⟩;repeat(first|exact⟨⟨k+1,id2,by omega,rfl,rfl,⟨by have:=HP.out;omega,HP.out.2⟩,HE.out,hM⟩,rfl⟩|apply Exists.intro))
   ·have e:=HW'.out
    rw[if_neg h0] at e
    have q0:=zG h0
    subst e
    clear h0 HW' HW HR
    generalize In.findE d.t id y=E at*
    generalize In.findN d.t id y=id2 at*
    (repeat(first|(first|(refine qW ?_;clear hM;intros;rename_i hM))|((refine qK (fun R hR=> ?_));first|((with_reducible refine(C.out _ hM.to_below).mono ?_);(refine qJ hR hM ?_;clear hR R hM;intro w' hM)))))
    exact qfb
  ·have k0:¬((k:Int)<(ps.length:Int)):=by omega
   obtain rfl:k=ps.length:=by omega
   have e:=HW.out
   rw[lcPz] at e
   subst e
   clear hlt hk HW HR
   exact qwf
theorem zeP(h:FsAt N x β d w)(hN:N≤1000000000)(p:ByteArray)(hp:p.size≤1000000):An 105 #[.pointer (some ⟨x.f,0,none⟩),.string p] w (.tuple #[.agg #[.int .i64 (Fs.at_ d p).1.1,.string (Fs.at_ d p).1.2],.int .i64 (Fs.at_ d p).2]):=by
 have hM:=h.at_.ro
 unfold fsL at hM
 simp only[laDz,zx] at hM
 have CS:=qh (fun W:World=>zks p W hp)
 have CW:=qh (fun (W:World) (hb:Below w.heap.size w W)=>zgX (h.below hb) hN (Pt.split p).1 (Nat.le_trans (Pt.split_small p).1 hp))
 unfold Fs.at_
 generalize Fs.walk d (Pt.split p).1=r at*
 generalize Pt.split p=q at*
 obtain⟨q1,q2⟩:=q
 obtain⟨r1,r2⟩:=r
 simp only at CS CW ⊢
 clear h hp
 go_enter Tryz.func105,Tryz.ntmps105
 (repeat(first|(first|(refine qW ?_;clear hM;intros;rename_i hM)|((refine qMk ?_);clear hM;intro w bk hM))|((refine qK (fun R hR=> ?_));first|((with_reducible refine(CS.out _).mono ?_);(refine qJ hR hM ?_;clear hR R hM;intro w' hM))|((with_reducible refine(CW.out _ hM.to_below).mono ?_);(refine qJ hR hM ?_;clear hR R hM;intro w' hM)))))
 exact qfb
end
end
section
open Go.RowKit Go.Maps
theorem zoh(a0 a1 a2 a3 a4 a5 a6 a7 a8:Int)(w:World):(Op.equalIn 10000 117 (.agg #[.int .i64 a0,.int .i64 a1,.int .i64 a2,.int .i64 a3,.int .i64 a4,.int .i64 a5,.int .i64 a6,.int .i64 a7,.int .i64 a8]) (.agg #[.int .i64 0,.int .i64 0,.int .i64 0,.int .i64 0,.int .i64 0,.int .i64 0,.int .i64 0,.int .i64 0,.int .i64 0])).run Tryz.prog w= .ok (a0==0&&(a1==0&&(a2==0&&(a3==0&&(a4==0&&(a5==0&&(a6==0&&(a7==0&&a8==0)))))))) w:=by
 have u3:=Tryz.underlying3
 have hagg: ∀ w,(isAgg 3).run Tryz.prog w= .ok false w:=fun w=>by
  unfold isAgg
  rw[Sem.run_bind,run_underlying u3 w]
  rfl
 have hsz: ∀ w,(sizeOf 3).run Tryz.prog w= .ok 1 w:=fun w=>by kernel_rfl
 rw[show(10000:Nat)=9999+1 from rfl,Op.equalIn]
 simp only[Sem.run_bind,run_underlying Tryz.underlying117,Result.andThen_ok]
 simp only[Std.Legacy.Range.forIn_eq_forIn_range',Std.Legacy.Range.size,Nat.sub_zero,Nat.add_sub_cancel,Nat.div_one,List.range'_succ,List.range'_zero,List.forIn_cons,List.forIn_nil]
 go_simp
 repeat' split
 all_goals simp_all
theorem ziW(a0 a1 a2 a3 a4 a5 a6 a7 a8:Int):(a0==0&&(a1==0&&(a2==0&&(a3==0&&(a4==0&&(a5==0&&(a6==0&&(a7==0&&a8==0))))))))=decide ([a0,a1,a2,a3,a4,a5,a6,a7,a8]=Fs.z9):=by
 rw[Bool.eq_iff_iff]
 simp[Fs.z9]
section
variable {K:Act→World→Prop}{a:Act}{w w0:World}{ops:Array Oper}{l:List (Oper×Nat)}{c:Nat}{o:Oper}{t:TypeId}{x y:Operand}{S:World→Prop}
theorem St.eqHand(hx:o.op= .binOp .eql 117 x y t)(hc:(c==0||c==2||c==3)=true)(hw:Region.wanted o (yielded ops a.tmps)=true){a0 a1 a2 a3 a4 a5 a6 a7 a8:Int}(e1:a.eval x= .agg #[.int .i64 a0,.int .i64 a1,.int .i64 a2,.int .i64 a3,.int .i64 a4,.int .i64 a5,.int .i64 a6,.int .i64 a7,.int .i64 a8])(e2:a.eval y= .agg #[.int .i64 0,.int .i64 0,.int .i64 0,.int .i64 0,.int .i64 0,.int .i64 0,.int .i64 0,.int .i64 0,.int .i64 0]){b:Bool}(hb:decide ([a0,a1,a2,a3,a4,a5,a6,a7,a8]=Fs.z9)=b)(h:zg Tryz.prog ops K S l (a.put o.dst (.bool b)) w):zg Tryz.prog ops K S ((o,c)::l) a w:=by
 refine St.soft hc hw (fun w=> ?_) h
 rw[←hb,←ziW]
 unfold execOp
 simp only[hx,e1,e2,Sem.run_bind,run_eql_struct,zoh,Result.andThen_ok,Sem.run_pure]
 go_simp
end
section
variable {N:Nat}{x:FsX}{β:Int→Nat×Nat}{d:FsD}{w w' w0:World}{F:List Nat}{L L' M':List Ent}
theorem zgn{h:List (Int×List Int)}{N:Nat}(hl:h.length≤N)(hN:N≤1000000000):(ZM h).length<maxLen:=by unfold ZM maxLen;rw[lbMz];omega
def YE(w:World)(x:FsX)(β:Int→Nat×Nat)(d:FsD)(w':World)(d':FsD):Prop:= ∃ β',St w (ze (fsL x β d)) w' (fsL x β' d')
theorem zbu(h:List (Int×List Int))(o b0 b1 b2 b3 b4 b5 b6 b7 b8:Int):putL (.int .i64 o) (.agg #[.int .i64 b0,.int .i64 b1,.int .i64 b2,.int .i64 b3,.int .i64 b4,.int .i64 b5,.int .i64 b6,.int .i64 b7,.int .i64 b8]) (ZM h)=ZM (Fs.put h o [b0,b1,b2,b3,b4,b5,b6,b7,b8]):=zmZ h o [b0,b1,b2,b3,b4,b5,b6,b7,b8]
theorem zlH{l:List Int}(h: ∀ i∈l,0≤i∧i≤4611686018427387904)(n:Nat):Fits (l.getD n 0):=by
 rw[lbDz]
 cases hn:l[n]? with
 |none=>exact show Fits (0:Int) by decide
 |some v=>
  have:=h v (laQz hn)
  exact Zy (by show -9223372036854775808≤v;omega) (by show v≤9223372036854775807;omega)
theorem zcw(h:FsAt N x β d w)(hN:N≤1000000000){o:Int}(ho:Fits o){n:Nat}(hn:n≤8):
  Calls Tryz.prog 67 #[.pointer (some ⟨x.f,0,none⟩),.int .i64 o,.int .i64 n] w fun e w'=>e= .returned (.tuple #[])∧YE w x β d w' (Fs.closes d o n):=by
 have hM:=h.at_.st
 unfold YE
 obtain⟨F,hF⟩: ∃ F,ze (fsL x β d)=F:=⟨_,rfl⟩
 rw[hF] at hM ⊢
 have F0:0∉F:=hF▸h.zero
 clear hF
 have hlen:=zgn h.inv.len hN
 have FI:=YP h.inv.tbl hN
 have hrw:=Fs.hOf_row h.inv o
 unfold Fs.closes
 obtain⟨a0,a1,a2,a3,a4,a5,a6,a7,a8,hl⟩:=row9 hrw.1
 have hrow:rowV (Fs.hOf d.h o)= .agg #[.int .i64 a0,.int .i64 a1,.int .i64 a2,.int .i64 a3,.int .i64 a4,.int .i64 a5,.int .i64 a6,.int .i64 a7,.int .i64 a8]:=by rw[hl];rfl
 rw[hl] at hrw ⊢
 have hid:=zlH hrw.2 n
 clear h hl hrw
 have hc:n=0∨n=1∨n=2∨n=3∨n=4∨n=5∨n=6∨n=7∨n=8:=by omega
 clear hn
 unfold fsL at hM
 by_cases hz:([a0,a1,a2,a3,a4,a5,a6,a7,a8]:List Int).set n 0=Fs.z9
 ·rw[Fs.shut_yes hz]
  have hd:=decide_eq_true hz
  clear hz
  rcases hc with rfl|rfl|rfl|rfl|rfl|rfl|rfl|rfl|rfl
  all_goals
   simp only[qGz,qGs,qSz,qSs] at hid hd ⊢
   go_enter Tryz.func67,Tryz.ntmps67
   (refine qw ?_;intros;rename_i hM)
   ((first|refine St.lookup rfl hM rfl rfl rfl rfl qm zq Tryz.underlying42 zJ (keyOf_int_mk Tryz.underlying3 (by assumption)) ((zI _ _).trans (by assumption)) ?_|refine St.lookup1 rfl rfl rfl rfl qm zq Tryz.underlying42 zJ (keyOf_int_mk Tryz.underlying3 (by assumption)) ((zI _ _).trans (by assumption)) ?_);(refine qq ?_))
   (refine qw ?_;intros;rename_i hM)
   (refine qK3 (fun R hR=> ?_))
   refine(zgA (hM.part (M:=tblL x.g x.mb β d.t) qpt).tbl FI hid).mono ?_
   (rintro e w' ⟨rfl,hS⟩;obtain⟨β,hN⟩:=hS.st;replace hM:=hM.backM qsw zD hN zD;clear hN hS;refine hR.out _ _ ?_;clear hR R;(refine qq ?_))
   (refine qw ?_;intros;rename_i hM)
   (refine St.mapUpdate rfl hM rfl rfl rfl rfl rfl qm (zbu _ _ _ _ _ _ _ _ _ _ _) zq Tryz.underlying42 (by assumption) (keyOf_int_mk Tryz.underlying3 (by assumption)) ?_ ?_;(focus(first|(intro h;cases h;done)|(intro _;repeat(first|exact Rest.here (Sub.all _)|exact Rest.here Sub.nil|apply Rest.take|apply Rest.skip))));clear hM;intro w hM;(refine qq ?_))
   (refine qw ?_;intros;rename_i hM)
   refine St.eqHand rfl rfl rfl rfl rfl hd ?_
   (refine qq ?_)
   (refine qw ?_;intros;rename_i hM)
   (refine St.mapDelete rfl hM rfl rfl rfl rfl qm (zgj _ _) zq Tryz.underlying42 (keyOf_int_mk Tryz.underlying3 (by assumption)) ?_ ?_;(focus(first|(intro h;cases h;done)|(intro _;repeat(first|exact Rest.here (Sub.all _)|exact Rest.here Sub.nil|apply Rest.take|apply Rest.skip))));clear hM;intro w hM;(refine qq ?_))
   (refine qw ?_;intros;rename_i hM)
   (refine qf ?_)
   exact⟨rfl,β,hM.forget⟩
 ·rw[Fs.shut_no hz]
  have hd:=decide_eq_false hz
  clear hz
  rcases hc with rfl|rfl|rfl|rfl|rfl|rfl|rfl|rfl|rfl
  all_goals
   simp only[qGz,qGs,qSz,qSs] at hid hd ⊢
   go_enter Tryz.func67,Tryz.ntmps67
   (refine qw ?_;intros;rename_i hM)
   ((first|refine St.lookup rfl hM rfl rfl rfl rfl qm zq Tryz.underlying42 zJ (keyOf_int_mk Tryz.underlying3 (by assumption)) ((zI _ _).trans (by assumption)) ?_|refine St.lookup1 rfl rfl rfl rfl qm zq Tryz.underlying42 zJ (keyOf_int_mk Tryz.underlying3 (by assumption)) ((zI _ _).trans (by assumption)) ?_);(refine qq ?_))
   (refine qw ?_;intros;rename_i hM)
   (refine qK3 (fun R hR=> ?_))
   refine(zgA (hM.part (M:=tblL x.g x.mb β d.t) qpt).tbl FI hid).mono ?_
   (rintro e w' ⟨rfl,hS⟩;obtain⟨β,hN⟩:=hS.st;replace hM:=hM.backM qsw zD hN zD;clear hN hS;refine hR.out _ _ ?_;clear hR R;(refine qq ?_))
   (refine qw ?_;intros;rename_i hM)
   (refine St.mapUpdate rfl hM rfl rfl rfl rfl rfl qm (zbu _ _ _ _ _ _ _ _ _ _ _) zq Tryz.underlying42 (by assumption) (keyOf_int_mk Tryz.underlying3 (by assumption)) ?_ ?_;(focus(first|(intro h;cases h;done)|(intro _;repeat(first|exact Rest.here (Sub.all _)|exact Rest.here Sub.nil|apply Rest.take|apply Rest.skip))));clear hM;intro w hM;(refine qq ?_))
   (refine qw ?_;intros;rename_i hM)
   refine St.eqHand rfl rfl rfl rfl rfl hd ?_
   (refine qq ?_)
   (refine qw ?_;intros;rename_i hM)
   (refine qf ?_)
   exact⟨rfl,β,hM.forget⟩
end
end
section
open Go.RowKit Go.Maps
section
variable {N:Nat}{x:FsX}{β:Int→Nat×Nat}{d:FsD}{w w' w0:World}{F:List Nat}{L L' M':List Ent}
def resV(r:ResD):Value:= .agg #[.int .i64 r.err,.int .i64 r.n,.string r.data,.slice none 0 0]
theorem zmS{d:FsD}{o id:Int}(h:(In.hold d.t id).1≠0):Fs.gives d o id=(Fs.errR (In.hold d.t id).1,⟨(In.hold d.t id).2,d.h⟩):=if_neg h
theorem zkP{d:FsD}{o id:Int}(h:(In.hold d.t id).1=0):Fs.gives d o id=(⟨0,(Fs.free d o:Int),⟨#[]⟩,[]⟩,⟨(In.hold d.t id).2,Fs.put d.h o ((Fs.hOf d.h o).set (Fs.free d o) id)⟩):=if_pos h
theorem zdX(h:FsAt N x β d w)(hN:N≤1000000000){o:Int}(ho:Fits o){id:Int}(hid:Fits id):
  Calls Tryz.prog 108 #[.pointer (some ⟨x.f,0,none⟩),.int .i64 o,.int .i64 id] w fun e w'=>e= .returned (resV (Fs.gives d o id).1)∧YE w x β d w' (Fs.gives d o id).2:=by
 have hM:=h.at_.st
 unfold YE
 obtain⟨F,hF⟩: ∃ F,ze (fsL x β d)=F:=⟨_,rfl⟩
 rw[hF] at hM ⊢
 have F0:0∉F:=hF▸h.zero
 clear hF
 have hlen:=zgn h.inv.len hN
 have FI:=YP h.inv.tbl hN
 have I1:Fs.Inv N ⟨(In.hold d.t id).2,d.h⟩:=⟨In.inv_hold h.inv.tbl id,h.inv.rows,h.inv.len⟩
 have HMX:=qh h.mx
 have hrw:=Fs.hOf_row h.inv o
 by_cases hE:(In.hold d.t id).1=0
 ·rw[zkP hE]
  have hfl:=Fs.free_le h.inv o
  have CF:=qh (fun (W:World) (β':Int→Nat×Nat) (hA:FsAt N x β' ⟨(In.hold d.t id).2,d.h⟩ W)=>zgB hA ho)
  rw[show Fs.free ⟨(In.hold d.t id).2,d.h⟩ o=Fs.free d o from rfl] at CF
  have CH:=qh (fun (W:World) (β':Int→Nat×Nat) (hT:TblAt W x.g x.mb β' d.t)=>zhi hT FI hid)
  unfold zbD at CH
  rw[hE] at CH
  generalize (In.hold d.t id).2=t1 at*
  generalize Fs.free d o=n at*
  obtain⟨a0,a1,a2,a3,a4,a5,a6,a7,a8,hl⟩:=row9 hrw.1
  have hrow:rowV (Fs.hOf d.h o)= .agg #[.int .i64 a0,.int .i64 a1,.int .i64 a2,.int .i64 a3,.int .i64 a4,.int .i64 a5,.int .i64 a6,.int .i64 a7,.int .i64 a8]:=by rw[hl];rfl
  rw[hl]
  clear h hl hE hrw
  have hc:n=0∨n=1∨n=2∨n=3∨n=4∨n=5∨n=6∨n=7∨n=8:=by omega
  clear hfl
  unfold fsL at hM
  rcases hc with rfl|rfl|rfl|rfl|rfl|rfl|rfl|rfl|rfl
  all_goals
   simp only[qSz,qSs]
   go_enter Tryz.func108,Tryz.ntmps108
   (refine qw ?_;intros;rename_i hM)
   (refine qK3 (fun R hR=> ?_))
   refine(CH.out _ _ (hM.part (M:=tblL x.g x.mb β d.t) qpt).tbl).mono ?_
   (rintro e w' ⟨rfl,hS⟩;obtain⟨β,hN⟩:=hS.st;replace hM:=hM.backM qsw zD hN zD;clear hN hS;refine hR.out _ _ ?_;clear hR R;(refine qq ?_))
   (refine qw ?_;intros;rename_i hM)
   (refine qK3 (fun R hR=> ?_))
   refine(CF.out _ β (hM.fs qpt I1 HMX.out F0)).mono ?_
   rintro e w' ⟨rfl,hb⟩;refine hR.out _ _ ?_;clear hR R;replace hM:=hM.below hb;clear hb;(refine qq ?_)
   (refine qw ?_;intros;rename_i hM)
   ((first|refine St.lookup rfl hM rfl rfl rfl rfl qm zq Tryz.underlying42 zJ (keyOf_int_mk Tryz.underlying3 (by assumption)) ((zI _ _).trans (by assumption)) ?_|refine St.lookup1 rfl rfl rfl rfl qm zq Tryz.underlying42 zJ (keyOf_int_mk Tryz.underlying3 (by assumption)) ((zI _ _).trans (by assumption)) ?_);(refine qq ?_))
   (refine qw ?_;intros;rename_i hM)
   (refine St.mapUpdate rfl hM rfl rfl rfl rfl rfl qm (zbu _ _ _ _ _ _ _ _ _ _ _) zq Tryz.underlying42 (by assumption) (keyOf_int_mk Tryz.underlying3 (by assumption)) ?_ ?_;(focus(first|(intro h;cases h;done)|(intro _;repeat(first|exact Rest.here (Sub.all _)|exact Rest.here Sub.nil|apply Rest.take|apply Rest.skip))));clear hM;intro w hM;(refine qq ?_))
   (refine qw ?_;intros;rename_i hM)
   (refine qf ?_)
   exact⟨rfl,β,hM.forget.forget⟩
 ·rw[zmS hE]
  have q0:=zG hE
  have CH:=qh (fun (W:World) (β':Int→Nat×Nat) (hT:TblAt W x.g x.mb β' d.t)=>zhi hT FI hid)
  unfold zbD at CH
  generalize (In.hold d.t id).2=t1 at*
  generalize (In.hold d.t id).1=E at*
  clear h hrw hE I1
  unfold fsL at hM
  go_enter Tryz.func108,Tryz.ntmps108
  (refine qw ?_;intros;rename_i hM)
  (refine qK3 (fun R hR=> ?_))
  refine(CH.out _ _ (hM.part (M:=tblL x.g x.mb β d.t) qpt).tbl).mono ?_
  (rintro e w' ⟨rfl,hS⟩;obtain⟨β,hN⟩:=hS.st;replace hM:=hM.backM qsw zD hN zD;clear hN hS;refine hR.out _ _ ?_;clear hR R;(refine qq ?_))
  (refine qw ?_;intros;rename_i hM)
  (refine qf ?_)
  exact⟨rfl,β,hM.forget⟩
end
end
section
open Go.RowKit Go.Maps
section
variable {N:Nat}{x:FsX}{β:Int→Nat×Nat}{d:FsD}{w w' w0:World}{F:List Nat}{L L' M':List Ent}
theorem zjq{d:FsD}{o H:Int}(h:¬(1≤H∧H≤8)):Fs.held d o H=0:=if_neg h
theorem zkO{d:FsD}{o:Int}{k:Nat}(h1:1≤k)(h8:k≤8):Fs.held d o (k:Int)=(Fs.hOf d.h o).getD k 0:=by
 unfold Fs.held
 rw[if_pos (by omega)]
 simp
theorem zbQ{d:FsD}{o:Int}{p:OpD}(h:Fs.held d o p.h=0):Fs.handled d o p=(Fs.errR 13,d):=if_pos h
theorem zjO{d:FsD}{o:Int}{p:OpD}(h:¬Fs.held d o p.h=0)(hk:p.kind=5):Fs.handled d o p=(Fs.errR 0,Fs.closes d o p.h.toNat):=by
 unfold Fs.handled;rw[if_neg h,if_pos hk]
theorem zjh{d:FsD}{o:Int}{p:OpD}(h:¬Fs.held d o p.h=0)(hk:p.kind=6):Fs.handled d o p=(⟨In.readE d.t (Fs.held d o p.h) p.at_ p.n,0,In.read d.t (Fs.held d o p.h) p.at_ p.n,[]⟩,d):=by
 unfold Fs.handled;rw[if_neg h,if_neg (by omega),if_pos hk]
theorem zkA{d:FsD}{o:Int}{p:OpD}(h:¬Fs.held d o p.h=0)(hk:p.kind=7):Fs.handled d o p=(Fs.errR (In.write d.t (Fs.held d o p.h) p.at_ p.data).1,⟨(In.write d.t (Fs.held d o p.h) p.at_ p.data).2,d.h⟩):=by
 unfold Fs.handled;rw[if_neg h,if_neg (by omega),if_neg (by omega),if_pos hk]
theorem zjx{d:FsD}{o:Int}{p:OpD}(h:¬Fs.held d o p.h=0)(hk:p.kind=8):Fs.handled d o p=(Fs.errR (In.trunc d.t (Fs.held d o p.h) p.n).1,⟨(In.trunc d.t (Fs.held d o p.h) p.n).2,d.h⟩):=by
 unfold Fs.handled;rw[if_neg h,if_neg (by omega),if_neg (by omega),if_neg (by omega),if_pos hk]
theorem zjg{d:FsD}{o:Int}{p:OpD}(h:¬Fs.held d o p.h=0)(hk:p.kind=9):Fs.handled d o p=(⟨In.readE d.t (Fs.held d o p.h) 0 1048576,(In.read d.t (Fs.held d o p.h) 0 1048576).size,⟨#[]⟩,[]⟩,d):=by
 unfold Fs.handled;rw[if_neg h,if_neg (by omega),if_neg (by omega),if_neg (by omega),if_neg (by omega)]
theorem zjM{l:List Int}{k:Nat}{c:Int}(hk:k<l.length)(hc:l.getD k 0=c):(l.map (Value.int .i64)).toArray[k]? =some (.int .i64 c):=by
 rw[lcUz,lbCz,laRz hk]
 rw[lbDz,laRz hk] at hc
 rw[←hc]
 rfl
theorem zeS(h:FsAt N x β d w)(hN:N≤1000000000){o:Int}(ho:Fits o)(p:OpD)(hp:p.Ok)(hk:p.kind=5∨p.kind=6∨p.kind=7∨p.kind=8∨p.kind=9):
  Calls Tryz.prog 64 #[.pointer (some ⟨x.f,0,none⟩),.int .i64 o,.agg p.cells.toArray] w fun e w'=>e= .returned (resV (Fs.handled d o p).1)∧YE w x β d w' (Fs.handled d o p).2:=by
 have hM:=h.at_.st
 unfold YE
 obtain⟨F,hF⟩: ∃ F,ze (fsL x β d)=F:=⟨_,rfl⟩
 rw[hF] at hM ⊢
 have F0:0∉F:=hF▸h.zero
 clear hF
 by_cases hr:1≤p.h∧p.h≤8
 ·obtain⟨k,hkk⟩: ∃ k:Nat,p.h=(k:Int):=⟨p.h.toNat,by omega⟩
  have hrw:=Fs.hOf_row h.inv o
  have hheld:=zkO (d:=d) (o:=o) (k:=k) (by omega) (by omega)
  rw[←hkk] at hheld
  obtain⟨c,hc⟩: ∃ c,Fs.held d o p.h=c:=⟨_,rfl⟩
  rw[hc] at hheld
  have hix:=zjM (k:=k) (by rw[hrw.1];omega) hheld.symm
  obtain⟨a0,a1,a2,a3,a4,a5,a6,a7,a8,hl⟩:=row9 hrw.1
  have hrow:rowV (Fs.hOf d.h o)= .agg #[.int .i64 a0,.int .i64 a1,.int .i64 a2,.int .i64 a3,.int .i64 a4,.int .i64 a5,.int .i64 a6,.int .i64 a7,.int .i64 a8]:=by rw[hl];rfl
  rw[hl] at hix
  have hix':(#[.int .i64 a0,.int .i64 a1,.int .i64 a2,.int .i64 a3,.int .i64 a4,.int .i64 a5,.int .i64 a6,.int .i64 a7,.int .i64 a8]:Array Value)[k]? =some (.int .i64 c):=hix
  have d1:decide ((1:Int)≤(k:Int))=true:=decide_eq_true (by omega)
  have d2:decide ((k:Int)≤(8:Int))=true:=decide_eq_true (by omega)
  have hk8:k≤8:=by omega
  by_cases h0:c=0
  ·subst h0
   rw[zbQ hc]
   obtain⟨pk,pp,pd,ph,pa,pn,px,py,pb⟩:=p
   simp only[OpD.cells] at hkk ⊢
   subst hkk
   clear h hp hk hr hrw hheld hc hix hl
   unfold fsL at hM
   go_enter Tryz.func64,Tryz.ntmps64
   (refine qw ?_;intros;rename_i hM)
   ((first|refine St.lookup rfl hM rfl rfl rfl rfl qm zq Tryz.underlying42 zJ (keyOf_int_mk Tryz.underlying3 (by assumption)) ((zI _ _).trans (by assumption)) ?_|refine St.lookup1 rfl rfl rfl rfl qm zq Tryz.underlying42 zJ (keyOf_int_mk Tryz.underlying3 (by assumption)) ((zI _ _).trans (by assumption)) ?_);(refine qq ?_))
   (refine qw ?_;intros;rename_i hM)
   (refine qf ?_)
   exact⟨rfl,β,hM.forget.forget⟩
  ·have FI:=YP h.inv.tbl hN
   have hcm:c∈Fs.hOf d.h o:=by
    rw[hheld,lbDz,laRz (by rw[hrw.1];omega)]
    exact List.getElem_mem _
   have hid:Fits c:=Zy (by have:=(hrw.2 c hcm).1;omega) (by have:=(hrw.2 c hcm).2;omega)
   have q0:(c==0)=false:=qne.2 h0
   have hc0:¬Fs.held d o p.h=0:=by rw[hc];exact h0
   have HI:=qh h.inv
   have HX:=qh h.mx
   have hpa:=zkc hp.at_
   have hpn:=zkc hp.n
   have hpd:=hp.data
   have HO:=qh ho
   rcases hk with hk|hk|hk|hk|hk
   ·rw[zjO hc0 hk]
    have e5:p.h.toNat=k:=by omega
    rw[e5]
    have CC:=qh (fun (W:World) (β':Int→Nat×Nat) (hA:FsAt N x β' d W)=>zcw hA hN ho hk8)
    clear e5
    obtain⟨pk,pp,pd,ph,pa,pn,px,py,pb⟩:=p
    simp only[OpD.cells] at hkk hpa hpn hpd ⊢
    subst hkk hk
    clear h hp hr hrw hheld hc hix hl hcm hc0 h0
    unfold fsL at hM
    go_enter Tryz.func64,Tryz.ntmps64
    (refine qw ?_;intros;rename_i hM)
    ((first|refine St.lookup rfl hM rfl rfl rfl rfl qm zq Tryz.underlying42 zJ (keyOf_int_mk Tryz.underlying3 (by assumption)) ((zI _ _).trans (by assumption)) ?_|refine St.lookup1 rfl rfl rfl rfl qm zq Tryz.underlying42 zJ (keyOf_int_mk Tryz.underlying3 (by assumption)) ((zI _ _).trans (by assumption)) ?_);(refine qq ?_))
    (refine qw ?_;intros;rename_i hM)
    (refine qK3 (fun R hR=> ?_))
    refine(CC.out _ β (hM.fs qpt HI.out HX.out F0)).mono ?_
    (rintro e w' ⟨rfl,β,hN⟩;replace hM:=hM.backM qsw (zr _ _ _) hN (zr _ _ _);clear hN;refine hR.out _ _ ?_;clear hR R;unfold fsL at hM;(refine qq ?_))
    (refine qw ?_;intros;rename_i hM)
    (refine qf ?_)
    exact⟨rfl,β,hM.forget.forget⟩
   ·rw[zjh hc0 hk,hc]
    obtain⟨pk,pp,pd,ph,pa,pn,px,py,pb⟩:=p
    simp only[OpD.cells] at hkk hpa hpn hpd ⊢
    subst hkk hk
    clear h hp hr hrw hheld hc hix hl hcm hc0 h0
    unfold fsL at hM
    go_enter Tryz.func64,Tryz.ntmps64
    (refine qw ?_;intros;rename_i hM)
    ((first|refine St.lookup rfl hM rfl rfl rfl rfl qm zq Tryz.underlying42 zJ (keyOf_int_mk Tryz.underlying3 (by assumption)) ((zI _ _).trans (by assumption)) ?_|refine St.lookup1 rfl rfl rfl rfl qm zq Tryz.underlying42 zJ (keyOf_int_mk Tryz.underlying3 (by assumption)) ((zI _ _).trans (by assumption)) ?_);(refine qq ?_))
    (refine qw ?_;intros;rename_i hM)
    (refine qCB (zgO (hM.part (M:=tblL x.g x.mb β d.t) qpt).tbl FI hid pa pn) hM ?_;clear hM;intro w' hM)
    (refine qw ?_;intros;rename_i hM)
    (refine qf ?_)
    exact⟨rfl,β,hM.forget.forget⟩
   ·rw[zkA hc0 hk,hc]
    obtain⟨pk,pp,pd,ph,pa,pn,px,py,pb⟩:=p
    simp only[OpD.cells] at hkk hpa hpn hpd ⊢
    subst hkk hk
    clear h hp hr hrw hheld hc hix hl hcm hc0 h0
    unfold fsL at hM
    go_enter Tryz.func64,Tryz.ntmps64
    (refine qw ?_;intros;rename_i hM)
    ((first|refine St.lookup rfl hM rfl rfl rfl rfl qm zq Tryz.underlying42 zJ (keyOf_int_mk Tryz.underlying3 (by assumption)) ((zI _ _).trans (by assumption)) ?_|refine St.lookup1 rfl rfl rfl rfl qm zq Tryz.underlying42 zJ (keyOf_int_mk Tryz.underlying3 (by assumption)) ((zI _ _).trans (by assumption)) ?_);(refine qq ?_))
    (refine qw ?_;intros;rename_i hM)
    (refine qK3 (fun R hR=> ?_))
    refine(zkQ (hM.part (M:=tblL x.g x.mb β d.t) qpt).tbl FI hid hpa.2 hpd).mono ?_
    (rintro e w' ⟨rfl,hS⟩;obtain⟨β,hN⟩:=hS.st;replace hM:=hM.backM qsw zD hN zD;clear hN hS;refine hR.out _ _ ?_;clear hR R;(refine qq ?_))
    (refine qw ?_;intros;rename_i hM)
    (refine qf ?_)
    exact⟨rfl,β,hM.forget.forget⟩
   ·rw[zjx hc0 hk,hc]
    obtain⟨pk,pp,pd,ph,pa,pn,px,py,pb⟩:=p
    simp only[OpD.cells] at hkk hpa hpn hpd ⊢
    subst hkk hk
    clear h hp hr hrw hheld hc hix hl hcm hc0 h0
    unfold fsL at hM
    go_enter Tryz.func64,Tryz.ntmps64
    (refine qw ?_;intros;rename_i hM)
    ((first|refine St.lookup rfl hM rfl rfl rfl rfl qm zq Tryz.underlying42 zJ (keyOf_int_mk Tryz.underlying3 (by assumption)) ((zI _ _).trans (by assumption)) ?_|refine St.lookup1 rfl rfl rfl rfl qm zq Tryz.underlying42 zJ (keyOf_int_mk Tryz.underlying3 (by assumption)) ((zI _ _).trans (by assumption)) ?_);(refine qq ?_))
    (refine qw ?_;intros;rename_i hM)
    (refine qK3 (fun R hR=> ?_))
    refine(zdP (hM.part (M:=tblL x.g x.mb β d.t) qpt).tbl FI hid hpn.2).mono ?_
    (rintro e w' ⟨rfl,hS⟩;obtain⟨β,hN⟩:=hS.st;replace hM:=hM.backM qsw zD hN zD;clear hN hS;refine hR.out _ _ ?_;clear hR R;(refine qq ?_))
    (refine qw ?_;intros;rename_i hM)
    (refine qf ?_)
    exact⟨rfl,β,hM.forget.forget⟩
   ·rw[zjg hc0 hk,hc]
    obtain⟨pk,pp,pd,ph,pa,pn,px,py,pb⟩:=p
    simp only[OpD.cells] at hkk hpa hpn hpd ⊢
    subst hkk hk
    clear h hp hr hrw hheld hc hix hl hcm hc0 h0
    unfold fsL at hM
    go_enter Tryz.func64,Tryz.ntmps64
    (refine qw ?_;intros;rename_i hM)
    ((first|refine St.lookup rfl hM rfl rfl rfl rfl qm zq Tryz.underlying42 zJ (keyOf_int_mk Tryz.underlying3 (by assumption)) ((zI _ _).trans (by assumption)) ?_|refine St.lookup1 rfl rfl rfl rfl qm zq Tryz.underlying42 zJ (keyOf_int_mk Tryz.underlying3 (by assumption)) ((zI _ _).trans (by assumption)) ?_);(refine qq ?_))
    (refine qw ?_;intros;rename_i hM)
    (refine qCB (zgO (hM.part (M:=tblL x.g x.mb β d.t) qpt).tbl FI hid 0 1048576) hM ?_;clear hM;intro w' hM)
    (refine qw ?_;intros;rename_i hM)
    (refine qf ?_)
    exact⟨rfl,β,hM.forget.forget⟩
 ·rw[zbQ (zjq hr)]
  have HM:=qh hr
  by_cases h1:1≤p.h
  ·have d1:decide ((1:Int)≤p.h)=true:=decide_eq_true h1
   have d2:decide (p.h≤(8:Int))=false:=decide_eq_false (by omega)
   obtain⟨pk,pp,pd,ph,pa,pn,px,py,pb⟩:=p
   simp only[OpD.cells] at d1 d2 ⊢
   clear h hp hk hr h1
   unfold fsL at hM
   go_enter Tryz.func64,Tryz.ntmps64
   (refine qw ?_;intros;rename_i hM)
   (refine qf ?_)
   exact⟨rfl,β,hM.forget.forget⟩
  ·have d1:decide ((1:Int)≤p.h)=false:=decide_eq_false h1
   obtain⟨pk,pp,pd,ph,pa,pn,px,py,pb⟩:=p
   simp only[OpD.cells] at d1 ⊢
   clear h hp hk hr h1
   unfold fsL at hM
   go_enter Tryz.func64,Tryz.ntmps64
   (refine qw ?_;intros;rename_i hM)
   (refine qf ?_)
   exact⟨rfl,β,hM.forget.forget⟩
end
end
section
open Go.RowKit Go.Maps
section
variable {N:Nat}{x:FsX}{β:Int→Nat×Nat}{d:FsD}{w w' w0:World}{F:List Nat}{L L' M':List Ent}
theorem zhr{d:FsD}{o:Int}{p:OpD}(h:Fs.free d o=0):Fs.opens d o p=(Fs.errR 5,d):=if_pos h
theorem zmj{d:FsD}{o:Int}{p:OpD}(h:¬Fs.free d o=0)(h1:(Fs.at_ d p.path).2≠0):Fs.opens d o p=(Fs.errR (Fs.at_ d p.path).2,d):=by
 unfold Fs.opens;rw[if_neg h,if_pos h1]
theorem zhZ{d:FsD}{o:Int}{p:OpD}(h:¬Fs.free d o=0)(h1:¬(Fs.at_ d p.path).2≠0)(hk:p.kind=3){dir:Int}{s:ByteArray}(e1:(Fs.at_ d p.path).1.1=dir)(e2:(Fs.at_ d p.path).1.2=s):
  Fs.opens d o p=if(In.make d.t dir s false).2.1≠0 then(Fs.errR (In.make d.t dir s false).2.1,⟨(In.make d.t dir s false).2.2,d.h⟩) else Fs.gives ⟨(In.make d.t dir s false).2.2,d.h⟩ o (In.make d.t dir s false).1:=by
 subst e1 e2;unfold Fs.opens;rw[if_neg h,if_neg h1,if_pos hk]
theorem zhm{d:FsD}{o:Int}{p:OpD}(h:¬Fs.free d o=0)(h1:¬(Fs.at_ d p.path).2≠0)(hk:¬p.kind=3){dir:Int}{s:ByteArray}(e1:(Fs.at_ d p.path).1.1=dir)(e2:(Fs.at_ d p.path).1.2=s):
  Fs.opens d o p=if In.findE d.t dir s≠0 then(Fs.errR (In.findE d.t dir s),d) else Fs.gives d o (In.findN d.t dir s):=by
 subst e1 e2;unfold Fs.opens;rw[if_neg h,if_neg h1,if_neg hk]
theorem zjf{d:FsD}{p:ByteArray}(I:Fs.Inv N d):0≤(Fs.at_ d p).1.1∧(Fs.at_ d p).1.1≤N:=zaH I.tbl _ 1 (by have:=I.tbl.last;omega)
theorem zcI{d:FsD}{p:ByteArray}:(Fs.at_ d p).1.2.size≤p.size:=(Pt.split_small p).2
theorem zkU{M:Nat}{t:TabD}(I:In.Inv M t)(dir:Int)(s:ByteArray)(b:Bool):0≤(In.make t dir s b).1∧(In.make t dir s b).1≤M+1:=by
 have h7:=I.last
 unfold In.make
 split
 ·show 0≤t.last+1∧t.last+1≤(M:Int)+1
  omega
 ·show(0:Int)≤0∧(0:Int)≤(M:Int)+1
  omega
theorem zlj(h:FsAt N x β d w)(hN:N≤999999990){o:Int}(ho:Fits o)(p:OpD)(hp:p.Ok)(hk:p.kind=3∨p.kind=4):
  Calls Tryz.prog 63 #[.pointer (some ⟨x.f,0,none⟩),.int .i64 o,.agg p.cells.toArray] w fun e w'=>e= .returned (resV (Fs.opens d o p).1)∧YE w x β d w' (Fs.opens d o p).2:=by
 have hM:=h.at_.st
 unfold YE
 obtain⟨F,hF⟩: ∃ F,ze (fsL x β d)=F:=⟨_,rfl⟩
 rw[hF] at hM ⊢
 have F0:0∉F:=hF▸h.zero
 clear hF
 have HI:=qh h.inv
 have HX:=qh h.mx
 have HO:=qh ho
 have CF:=qh (fun (W:World) (β':Int→Nat×Nat) (hA:FsAt N x β' d W)=>zgB hA ho)
 have CA:=qh (fun (W:World) (β':Int→Nat×Nat) (hA:FsAt N x β' d W)=>zeP hA (by omega) p.path hp.path)
 have FI:=YP h.inv.tbl (by omega)
 by_cases hf:Fs.free d o=0
 ·rw[zhr hf]
  rw[hf] at CF
  obtain⟨pk,pp,pd,ph,pa,pn,px,py,pb⟩:=p
  simp only[OpD.cells] at CA ⊢
  clear h hf hp hk ho
  unfold fsL at hM
  go_enter Tryz.func63,Tryz.ntmps63
  (refine qw ?_;intros;rename_i hM)
  (refine qCB (CF.out _ β (hM.fs qpt HI.out HX.out F0)) hM ?_;clear hM;intro w' hM)
  (refine qw ?_;intros;rename_i hM)
  (refine qf ?_)
  exact⟨rfl,β,hM.forget.forget⟩
 have hf0:((Fs.free d o:Int)==0)=false:=qne.2 (by omega)
 have hap:=zjf (p:=p.path) h.inv
 have has:=Nat.le_trans (zcI (d:=d) (p:=p.path)) hp.path
 by_cases ha:(Fs.at_ d p.path).2≠0
 ·rw[zmj hf ha]
  have q1:=zG ha
  generalize Fs.at_ d p.path=A at*
  obtain⟨⟨dir,s⟩,E⟩:=A
  generalize Fs.free d o=n at*
  obtain⟨pk,pp,pd,ph,pa,pn,px,py,pb⟩:=p
  simp only[OpD.cells] at CA q1 ⊢
  clear h hf hp hk ho ha
  unfold fsL at hM
  go_enter Tryz.func63,Tryz.ntmps63
  (refine qw ?_;intros;rename_i hM)
  (refine qCB (CF.out _ β (hM.fs qpt HI.out HX.out F0)) hM ?_;clear hM;intro w' hM)
  (refine qw ?_;intros;rename_i hM)
  (refine qCB (CA.out _ β (hM.fs qpt HI.out HX.out F0)) hM ?_;clear hM;intro w' hM)
  (refine qw ?_;intros;rename_i hM)
  (refine qf ?_)
  exact⟨rfl,β,hM.forget.forget.forget⟩
 obtain⟨dir,hdir⟩: ∃ z,(Fs.at_ d p.path).1.1=z:=⟨_,rfl⟩
 obtain⟨s,hs⟩: ∃ z,(Fs.at_ d p.path).1.2=z:=⟨_,rfl⟩
 have he0:(Fs.at_ d p.path).2=0:=Decidable.not_not.1 ha
 rw[hdir] at hap
 rw[hs] at has
 rw[hdir,hs,he0] at CA
 have hdf:Fits dir:=Zy (by omega) (by omega)
 have hss:s.size≤maxLen:=by unfold maxLen;omega
 rcases hk with hk|hk
 ·rw[zhZ hf ha hk hdir hs]
  have CM:=qh (fun (W:World) (β':Int→Nat×Nat) (hT:TblAt W x.g x.mb β' d.t)=>zhb hT h.inv.tbl (by omega) hdf hss false)
  have hmi:=zkU h.inv.tbl dir s false
  have I2:Fs.Inv (N+2) ⟨(In.make d.t dir s false).2.2,d.h⟩:=⟨In.inv_make h.inv.tbl dir s false,h.inv.rows,by have:=h.inv.len;show d.h.length≤N+2;omega⟩
  have CG:=qh (fun (W:World) (β':Int→Nat×Nat) (hA:FsAt (N+2) x β' ⟨(In.make d.t dir s false).2.2,d.h⟩ W)=>zdX hA (by omega) ho (id:=(In.make d.t dir s false).1) (Zy (by omega) (by omega)))
  generalize In.make d.t dir s false=R at*
  obtain⟨id,E,t1⟩:=R
  simp only at CM CG I2 hmi ⊢
  by_cases hE:E≠0
  ·rw[if_pos hE]
   have q1:=zG hE
   generalize Fs.free d o=n at*
   obtain⟨pk,pp,pd,ph,pa,pn,px,py,pb⟩:=p
   simp only[OpD.cells] at hk CA ⊢
   subst hk
   clear h hf hp ho ha hdir hs he0 hE
   unfold fsL at hM
   go_enter Tryz.func63,Tryz.ntmps63
   (refine qw ?_;intros;rename_i hM)
   (refine qCB (CF.out _ β (hM.fs qpt HI.out HX.out F0)) hM ?_;clear hM;intro w' hM)
   (refine qw ?_;intros;rename_i hM)
   (refine qCB (CA.out _ β (hM.fs qpt HI.out HX.out F0)) hM ?_;clear hM;intro w' hM)
   (refine qw ?_;intros;rename_i hM)
   (refine qK3 (fun R hR=> ?_))
   refine(CM.out _ _ (hM.part (M:=tblL x.g x.mb β d.t) qpt).tbl).mono ?_
   (rintro e w' ⟨rfl,hS⟩;obtain⟨β,hN⟩:=hS.st;replace hM:=hM.backM qsw zD hN zD;clear hN hS;refine hR.out _ _ ?_;clear hR R;(refine qq ?_))
   (refine qw ?_;intros;rename_i hM)
   (refine qf ?_)
   exact⟨rfl,β,hM.forget.forget.forget⟩
  ·rw[if_neg hE]
   obtain rfl:E=0:=Decidable.not_not.1 hE
   generalize Fs.gives ⟨t1,d.h⟩ o id=G at*
   generalize Fs.free d o=n at*
   obtain⟨pk,pp,pd,ph,pa,pn,px,py,pb⟩:=p
   simp only[OpD.cells] at hk CA ⊢
   subst hk
   clear h hf hp ho ha hdir hs he0 hE
   unfold fsL at hM
   go_enter Tryz.func63,Tryz.ntmps63
   (refine qw ?_;intros;rename_i hM)
   (refine qCB (CF.out _ β (hM.fs qpt HI.out HX.out F0)) hM ?_;clear hM;intro w' hM)
   (refine qw ?_;intros;rename_i hM)
   (refine qCB (CA.out _ β (hM.fs qpt HI.out HX.out F0)) hM ?_;clear hM;intro w' hM)
   (refine qw ?_;intros;rename_i hM)
   (refine qK3 (fun R hR=> ?_))
   refine(CM.out _ _ (hM.part (M:=tblL x.g x.mb β d.t) qpt).tbl).mono ?_
   (rintro e w' ⟨rfl,hS⟩;obtain⟨β,hN⟩:=hS.st;replace hM:=hM.backM qsw zD hN zD;clear hN hS;refine hR.out _ _ ?_;clear hR R;(refine qq ?_))
   (refine qw ?_;intros;rename_i hM)
   (refine qK3 (fun R hR=> ?_))
   refine(CG.out _ β (hM.fs qpt I2 HX.out F0)).mono ?_
   unfold resV
   (rintro e w' ⟨rfl,β,hN⟩;replace hM:=hM.backM qsw (zr _ _ _) hN (zr _ _ _);clear hN;refine hR.out _ _ ?_;clear hR R;unfold fsL at hM;(refine qq ?_))
   (refine qw ?_;intros;rename_i hM)
   (refine qf ?_)
   exact⟨rfl,β,hM.forget.forget.forget⟩
 ·rw[zhm hf ha (by omega) hdir hs]
  have CM:=qh (fun (W:World) (β':Int→Nat×Nat) (hT:TblAt W x.g x.mb β' d.t)=>YV hT FI.q0 hdf hss)
  by_cases hE:In.findE d.t dir s≠0
  ·rw[if_pos hE]
   have q1:=zG hE
   generalize In.findN d.t dir s=id at*
   generalize In.findE d.t dir s=E at*
   generalize Fs.free d o=n at*
   obtain⟨pk,pp,pd,ph,pa,pn,px,py,pb⟩:=p
   simp only[OpD.cells] at hk CA ⊢
   subst hk
   clear h hf hp ho ha hdir hs he0 hE
   unfold fsL at hM
   go_enter Tryz.func63,Tryz.ntmps63
   (refine qw ?_;intros;rename_i hM)
   (refine qCB (CF.out _ β (hM.fs qpt HI.out HX.out F0)) hM ?_;clear hM;intro w' hM)
   (refine qw ?_;intros;rename_i hM)
   (refine qCB (CA.out _ β (hM.fs qpt HI.out HX.out F0)) hM ?_;clear hM;intro w' hM)
   (refine qw ?_;intros;rename_i hM)
   (refine qCB (CM.out _ _ (hM.part (M:=tblL x.g x.mb β d.t) qpt).tbl) hM ?_;clear hM;intro w' hM)
   (refine qw ?_;intros;rename_i hM)
   (refine qf ?_)
   exact⟨rfl,β,hM.forget.forget.forget⟩
  ·rw[if_neg hE]
   have hE0:In.findE d.t dir s=0:=Decidable.not_not.1 hE
   have hmi:=xO h.inv.tbl hE0
   rw[hE0] at CM
   have CG:=qh (fun (W:World) (β':Int→Nat×Nat) (hA:FsAt N x β' d W)=>zdX hA (by omega) ho (id:=In.findN d.t dir s) (Zy (by omega) (by omega)))
   generalize In.findN d.t dir s=id at*
   generalize Fs.gives d o id=G at*
   generalize Fs.free d o=n at*
   obtain⟨pk,pp,pd,ph,pa,pn,px,py,pb⟩:=p
   simp only[OpD.cells] at hk CA ⊢
   subst hk
   clear h hf hp ho ha hdir hs he0 hE hE0
   unfold fsL at hM
   go_enter Tryz.func63,Tryz.ntmps63
   (refine qw ?_;intros;rename_i hM)
   (refine qCB (CF.out _ β (hM.fs qpt HI.out HX.out F0)) hM ?_;clear hM;intro w' hM)
   (refine qw ?_;intros;rename_i hM)
   (refine qCB (CA.out _ β (hM.fs qpt HI.out HX.out F0)) hM ?_;clear hM;intro w' hM)
   (refine qw ?_;intros;rename_i hM)
   (refine qCB (CM.out _ _ (hM.part (M:=tblL x.g x.mb β d.t) qpt).tbl) hM ?_;clear hM;intro w' hM)
   (refine qw ?_;intros;rename_i hM)
   (refine qK3 (fun R hR=> ?_))
   refine(CG.out _ β (hM.fs qpt HI.out HX.out F0)).mono ?_
   unfold resV
   (rintro e w' ⟨rfl,β,hN⟩;replace hM:=hM.backM qsw (zr _ _ _) hN (zr _ _ _);clear hN;refine hR.out _ _ ?_;clear hR R;unfold fsL at hM;(refine qq ?_))
   (refine qw ?_;intros;rename_i hM)
   (refine qf ?_)
   exact⟨rfl,β,hM.forget.forget.forget⟩
end
end
section
open Go.RowKit Go.Maps
section
variable {w:World}{g mb:Nat}{β:Int→Nat×Nat}{t:TabD}
theorem Yi{w w':World}{base n:Nat}{v:Value}{xs:List Value}{e:TypeId}(h:w'.ownsRow base e 1 v n xs)(hb:Below w.heap.size w w')(hB:w.heap.size≤base): ∃ s,v=slV s n∧SlOK s n xs 1∧St w [] w' (slL s xs e 1):=by
 obtain⟨hl,h⟩:=h
 rcases h with ⟨rfl,rfl⟩|⟨g,cap,cur,rfl,hg,hc,h1,h2,h3,h4⟩
 ·exact⟨none,rfl,⟨hl,rfl⟩,⟨Only.of_below hb,nofun,lcHz,nofun⟩⟩
 ·refine⟨some (g,cap),rfl,⟨hl,h1,h2⟩,⟨Only.of_below hb,fun z hz=> ?_,by simp[slL],fun z hz _=> ?_⟩⟩
  ·obtain rfl:=laGz.1 hz
   refine⟨cur.toList.drop (n*1), ?_, ?_⟩
   ·rw[←h4,lcVz];simpa using hc
   ·rw[←h4,lcVz];simpa using h3
  ·obtain rfl:=laGz.1 hz
   exact .inr (Nat.le_trans hB hg)
def zgv(w:World)(t:TabD)(dir:Int)(e:Ending)(w':World):Prop:=
 ∃ s,e= .returned (.tuple #[slV s (In.list t dir).length,.int .i64 (In.listE t dir)])∧TxOK s (In.list t dir)∧St w [] w' (txL s (In.list t dir))
theorem zjw(h:TblAt w g mb β t)(hq:0<t.quota){dir:Int}(hdir:Fits dir)(hlen: ∀ n∈t.nodes,n.names.length≤4611686018427):
  Calls Tryz.prog 113 #[.pointer (some ⟨g,0,none⟩),.int .i64 dir] w (zgv w t dir):=by
 rcases yf (t:=t) (id:=dir) (dir:=true) with ⟨h1,d,hd,hdd⟩|h1
 ·have cg:=ZJ h hq hdir hd hdd
  have hE:In.listE t dir=0:=h1
  have hL:In.list t dir=d.names.map Prod.fst:=by unfold In.list;rw[hE,zW hd];rfl
  have hA:=h.at hd
  have d4:=(zw hA).2.2.2.2
  have HNm:=qh hA.names
  have HS:=qh (zbe w hA.names (hlen d (zk hd).1))
  have HE:=qh hE
  have HL:=qh hL
  have HK:=qh (zcb hA.names)
  have CK:=qh (zdk (some (β dir).2) w)
  clear h hq h1 hd hdd hA hlen hE hL
  go_enter Tryz.func113,Tryz.ntmps113
  go_wp2_with (first
   |(go_at_call 165;refine cg.mono ?_;rintro e w' ⟨rfl,rfl⟩)
   |(go_at_call 122;refine CK.out.mono ?_;rintro e w' ⟨rfl,rfl⟩)
   |(go_at_call 121;refine HS.out.mono ?_;rintro e w2 ⟨v,rfl,hrow,hb⟩;have HR:=qh hrow;have HB:=qh hb;clear hrow hb))
  have hr:=HR.out
  have e1:(d.names.map fun p=>Value.string p.1)=(d.names.map Prod.fst).map .string:=by rw[lbZz];rfl
  have e2:d.names.length=(d.names.map Prod.fst).length:=by simp
  rw[e1,e2] at hr
  obtain⟨s,rfl,hok,hst⟩:=Yi hr HB.out (Nat.le_succ _)
  go_ret2
  unfold zgv
  rw[HE.out,HL.out]
  exact⟨s,rfl,hok,hst⟩
 ·obtain⟨E,hE⟩: ∃ E,In.listE t dir=E:=⟨_,rfl⟩
  have hE':In.getE t dir true=E:=hE
  have h0:E≠0:=hE'▸h1
  have cg:=XJ h hq hdir hE' h0
  have e0:=zG h0
  have HE:=qh hE
  have HL:=qh (show In.list t dir=[] by unfold In.list;rw[hE,zm h0];rfl)
  clear h hq h1 hlen hE hE' h0
  go_enter Tryz.func113,Tryz.ntmps113
  go_wp2_with (go_at_call 165;refine cg.mono ?_;rintro e w' ⟨rfl,rfl⟩)
  go_ret2
  unfold zgv
  rw[HE.out,HL.out]
  exact⟨none,rfl,⟨rfl,rfl⟩,St.start _ _⟩
end
end
section
open Go.RowKit Go.Maps
section
variable {N:Nat}{x:FsX}{β:Int→Nat×Nat}{d:FsD}{w w' w0:World}{F:List Nat}{L L' M':List Ent}
theorem St.subL(h:St w0 F w L)(hs:L'.Sublist L):St w0 F w L':=h.drop (fun _ hx=>hs.subset hx) ((hs.map _).nodup h.nd)
theorem zmX{d:FsD}{p:OpD}(h1:(Fs.at_ d p.path).2≠0):Fs.named d p=((Fs.at_ d p.path).2,d.t):=if_pos h1
theorem zmW{d:FsD}{p:OpD}(h1:¬(Fs.at_ d p.path).2≠0):Fs.named d p=Fs.namedAt d p (Fs.at_ d p.path).1.1 (Fs.at_ d p.path).1.2:=if_neg h1
theorem zjW{d:FsD}{p:OpD}{dir:Int}{s:ByteArray}(hk:p.kind=1):Fs.namedAt d p dir s=((In.make d.t dir s true).2.1,(In.make d.t dir s true).2.2):=if_pos hk
theorem zkH{d:FsD}{p:OpD}{dir:Int}{s:ByteArray}(hk:p.kind=2):Fs.namedAt d p dir s=In.remove d.t dir s:=by
 unfold Fs.namedAt;rw[if_neg (by omega),if_pos hk]
theorem ziF{d:FsD}{p:OpD}{dir:Int}{s:ByteArray}(hk:p.kind=11):Fs.namedAt d p dir s=In.unlink d.t dir s:=by
 unfold Fs.namedAt;rw[if_neg (by omega),if_neg (by omega),if_pos hk]
theorem zhP{d:FsD}{p:OpD}{dir:Int}{s:ByteArray}(hk:p.kind=10):Fs.namedAt d p dir s=if In.findE d.t dir s≠0 then(In.findE d.t dir s,d.t) else if(Fs.at_ d p.dest).2≠0 then((Fs.at_ d p.dest).2,d.t) else In.link d.t (In.findN d.t dir s) (Fs.at_ d p.dest).1.1 (Fs.at_ d p.dest).1.2:=by
 unfold Fs.namedAt;rw[if_neg (by omega),if_neg (by omega),if_neg (by omega),if_pos hk]
theorem zhp{d:FsD}{p:OpD}{dir:Int}{s:ByteArray}(hk:p.kind=12):Fs.namedAt d p dir s=if(Fs.at_ d p.dest).2≠0 then((Fs.at_ d p.dest).2,d.t) else In.rename d.t dir s (Fs.at_ d p.dest).1.1 (Fs.at_ d p.dest).1.2:=by
 unfold Fs.namedAt;rw[if_neg (by omega),if_neg (by omega),if_neg (by omega),if_neg (by omega)]
theorem ziV(h:FsAt N x β d w)(hN:N≤999999990)(p:OpD)(hp:p.Ok)(hk:p.kind=1∨p.kind=2∨p.kind=11∨p.kind=10∨p.kind=12):
  Calls Tryz.prog 66 #[.pointer (some ⟨x.f,0,none⟩),.agg p.cells.toArray] w fun e w'=>e= .returned (.int .i64 (Fs.named d p).1)∧YE w x β d w' ⟨(Fs.named d p).2,d.h⟩:=by
 have hM:=h.at_.st
 unfold YE
 obtain⟨F,hF⟩: ∃ F,ze (fsL x β d)=F:=⟨_,rfl⟩
 rw[hF] at hM ⊢
 have F0:0∉F:=hF▸h.zero
 clear hF
 have HI:=qh h.inv
 have HX:=qh h.mx
 have CA:=qh (fun (W:World) (β':Int→Nat×Nat) (hA:FsAt N x β' d W)=>zeP hA (by omega) p.path hp.path)
 have CB:=qh (fun (W:World) (β':Int→Nat×Nat) (hA:FsAt N x β' d W)=>zeP hA (by omega) p.dest hp.dest)
 have FI:=YP h.inv.tbl (by omega)
 have hap:=zjf (p:=p.path) h.inv
 have has:=Nat.le_trans (zcI (d:=d) (p:=p.path)) hp.path
 have hbp:=zjf (p:=p.dest) h.inv
 have hbs:=Nat.le_trans (zcI (d:=d) (p:=p.dest)) hp.dest
 by_cases ha:(Fs.at_ d p.path).2≠0
 ·rw[zmX ha]
  have q1:=zG ha
  generalize Fs.at_ d p.path=A at*
  obtain⟨⟨dir,s⟩,E⟩:=A
  obtain⟨pk,pp,pd,ph,pa,pn,px,py,pb⟩:=p
  simp only[OpD.cells] at CA q1 ⊢
  clear h hp hk ha
  unfold fsL at hM
  go_enter Tryz.func66,Tryz.ntmps66
  (refine qw ?_;intros;rename_i hM)
  (refine qCB (CA.out _ β (hM.fs qpt HI.out HX.out F0)) hM ?_;clear hM;intro w' hM)
  (refine qw ?_;intros;rename_i hM)
  (refine qf ?_)
  exact⟨rfl,β,hM.forget.forget⟩
 rw[zmW ha]
 obtain⟨dir,hdir⟩: ∃ z,(Fs.at_ d p.path).1.1=z:=⟨_,rfl⟩
 obtain⟨s,hs⟩: ∃ z,(Fs.at_ d p.path).1.2=z:=⟨_,rfl⟩
 have he0:(Fs.at_ d p.path).2=0:=Decidable.not_not.1 ha
 rw[hdir] at hap ⊢
 rw[hs] at has ⊢
 rw[hdir,hs,he0] at CA
 have hdf:Fits dir:=Zy (by omega) (by omega)
 have hss:s.size≤maxLen:=by unfold maxLen;omega
 clear ha hdir hs he0
 rcases hk with hk|hk|hk|hk|hk
 ·rw[zjW hk]
  have CM:=qh (fun (W:World) (β':Int→Nat×Nat) (hT:TblAt W x.g x.mb β' d.t)=>zhb hT h.inv.tbl (by omega) hdf hss true)
  generalize In.make d.t dir s true=R at*
  obtain⟨id,E,t1⟩:=R
  simp only at CM ⊢
  obtain⟨pk,pp,pd,ph,pa,pn,px,py,pb⟩:=p
  simp only[OpD.cells] at hk CA CB hbp hbs ⊢
  subst hk
  clear h hp
  unfold fsL at hM
  go_enter Tryz.func66,Tryz.ntmps66
  (refine qw ?_;intros;rename_i hM)
  (refine qCB (CA.out _ β (hM.fs qpt HI.out HX.out F0)) hM ?_;clear hM;intro w' hM)
  (refine qw ?_;intros;rename_i hM)
  (refine qK3 (fun R hR=> ?_))
  refine(CM.out _ _ (hM.part (M:=tblL x.g x.mb β d.t) qpt).tbl).mono ?_
  (rintro e w' ⟨rfl,hS⟩;obtain⟨β,hN⟩:=hS.st;replace hM:=hM.backM qsw zD hN zD;clear hN hS;refine hR.out _ _ ?_;clear hR R;(refine qq ?_))
  (refine qw ?_;intros;rename_i hM)
  (refine qf ?_)
  exact⟨rfl,β,hM.forget.forget⟩
 ·rw[zkH hk]
  obtain⟨pk,pp,pd,ph,pa,pn,px,py,pb⟩:=p
  simp only[OpD.cells] at hk CA CB hbp hbs ⊢
  subst hk
  clear h hp
  unfold fsL at hM
  go_enter Tryz.func66,Tryz.ntmps66
  (refine qw ?_;intros;rename_i hM)
  (refine qCB (CA.out _ β (hM.fs qpt HI.out HX.out F0)) hM ?_;clear hM;intro w' hM)
  (refine qw ?_;intros;rename_i hM)
  (refine qK3 (fun R hR=> ?_))
  refine(zhO (hM.part (M:=tblL x.g x.mb β d.t) qpt).tbl FI hdf hss).mono ?_
  (rintro e w' ⟨rfl,hS⟩;obtain⟨β,hN⟩:=hS.st;replace hM:=hM.backM qsw zD hN zD;clear hN hS;refine hR.out _ _ ?_;clear hR R;(refine qq ?_))
  (refine qw ?_;intros;rename_i hM)
  (refine qf ?_)
  exact⟨rfl,β,hM.forget.forget⟩
 ·rw[ziF hk]
  obtain⟨pk,pp,pd,ph,pa,pn,px,py,pb⟩:=p
  simp only[OpD.cells] at hk CA CB hbp hbs ⊢
  subst hk
  clear h hp
  unfold fsL at hM
  go_enter Tryz.func66,Tryz.ntmps66
  (refine qw ?_;intros;rename_i hM)
  (refine qCB (CA.out _ β (hM.fs qpt HI.out HX.out F0)) hM ?_;clear hM;intro w' hM)
  (refine qw ?_;intros;rename_i hM)
  (refine qK3 (fun R hR=> ?_))
  refine(zhS (hM.part (M:=tblL x.g x.mb β d.t) qpt).tbl FI hdf hss).mono ?_
  (rintro e w' ⟨rfl,hS⟩;obtain⟨β,hN⟩:=hS.st;replace hM:=hM.backM qsw zD hN zD;clear hN hS;refine hR.out _ _ ?_;clear hR R;(refine qq ?_))
  (refine qw ?_;intros;rename_i hM)
  (refine qf ?_)
  exact⟨rfl,β,hM.forget.forget⟩
 ·rw[zhP hk]
  have CM:=qh (fun (W:World) (β':Int→Nat×Nat) (hT:TblAt W x.g x.mb β' d.t)=>YV hT FI.q0 hdf hss)
  by_cases hE:In.findE d.t dir s≠0
  ·rw[if_pos hE]
   have q1:=zG hE
   generalize In.findN d.t dir s=id at*
   generalize In.findE d.t dir s=E at*
   obtain⟨pk,pp,pd,ph,pa,pn,px,py,pb⟩:=p
   simp only[OpD.cells] at hk CA CB hbp hbs ⊢
   subst hk
   clear h hp hE
   unfold fsL at hM
   go_enter Tryz.func66,Tryz.ntmps66
   (refine qw ?_;intros;rename_i hM)
   (refine qCB (CA.out _ β (hM.fs qpt HI.out HX.out F0)) hM ?_;clear hM;intro w' hM)
   (refine qw ?_;intros;rename_i hM)
   (refine qCB (CM.out _ _ (hM.part (M:=tblL x.g x.mb β d.t) qpt).tbl) hM ?_;clear hM;intro w' hM)
   (refine qw ?_;intros;rename_i hM)
   (refine qf ?_)
   exact⟨rfl,β,hM.forget.forget⟩
  rw[if_neg hE]
  have hE0:In.findE d.t dir s=0:=Decidable.not_not.1 hE
  have hmi:=xO h.inv.tbl hE0
  have hif:Fits (In.findN d.t dir s):=Zy (by omega) (by omega)
  rw[hE0] at CM
  generalize In.findN d.t dir s=id at*
  clear hE hE0
  by_cases hb:(Fs.at_ d p.dest).2≠0
  ·rw[if_pos hb]
   have q1:=zG hb
   generalize Fs.at_ d p.dest=B at*
   obtain⟨⟨dir2,s2⟩,E2⟩:=B
   simp only at q1
   obtain⟨pk,pp,pd,ph,pa,pn,px,py,pb⟩:=p
   simp only[OpD.cells] at hk CA CB hbp hbs ⊢
   subst hk
   clear h hp hb
   unfold fsL at hM
   go_enter Tryz.func66,Tryz.ntmps66
   (refine qw ?_;intros;rename_i hM)
   (refine qCB (CA.out _ β (hM.fs qpt HI.out HX.out F0)) hM ?_;clear hM;intro w' hM)
   (refine qw ?_;intros;rename_i hM)
   (refine qCB (CM.out _ _ (hM.part (M:=tblL x.g x.mb β d.t) qpt).tbl) hM ?_;clear hM;intro w' hM)
   (refine qw ?_;intros;rename_i hM)
   (refine qCB (CB.out _ β (hM.fs qpt HI.out HX.out F0)) hM ?_;clear hM;intro w' hM)
   (refine qw ?_;intros;rename_i hM)
   (refine qf ?_)
   exact⟨rfl,β,hM.forget.forget.forget⟩
  rw[if_neg hb]
  have hb0:(Fs.at_ d p.dest).2=0:=Decidable.not_not.1 hb
  rw[hb0] at CB
  have hdf2:Fits (Fs.at_ d p.dest).1.1:=Zy (by omega) (by omega)
  have hss2:(Fs.at_ d p.dest).1.2.size≤maxLen:=by unfold maxLen;omega
  generalize (Fs.at_ d p.dest).1.1=dir2 at*
  generalize (Fs.at_ d p.dest).1.2=s2 at*
  clear hb hb0
  obtain⟨pk,pp,pd,ph,pa,pn,px,py,pb⟩:=p
  simp only[OpD.cells] at hk CA CB hbp hbs ⊢
  subst hk
  clear h hp
  unfold fsL at hM
  go_enter Tryz.func66,Tryz.ntmps66
  (refine qw ?_;intros;rename_i hM)
  (refine qCB (CA.out _ β (hM.fs qpt HI.out HX.out F0)) hM ?_;clear hM;intro w' hM)
  (refine qw ?_;intros;rename_i hM)
  (refine qCB (CM.out _ _ (hM.part (M:=tblL x.g x.mb β d.t) qpt).tbl) hM ?_;clear hM;intro w' hM)
  (refine qw ?_;intros;rename_i hM)
  (refine qCB (CB.out _ β (hM.fs qpt HI.out HX.out F0)) hM ?_;clear hM;intro w' hM)
  (refine qw ?_;intros;rename_i hM)
  (refine qK3 (fun R hR=> ?_))
  refine(zmV (hM.part (M:=tblL x.g x.mb β d.t) qpt).tbl FI.q0 hif hdf2 hss2 FI.node).mono ?_
  (rintro e w' ⟨rfl,hS⟩;obtain⟨β,hN⟩:=hS.st;replace hM:=hM.backM qsw zD hN zD;clear hN hS;refine hR.out _ _ ?_;clear hR R;(refine qq ?_))
  (refine qw ?_;intros;rename_i hM)
  (refine qf ?_)
  exact⟨rfl,β,hM.forget.forget.forget⟩
 ·rw[zhp hk]
  by_cases hb:(Fs.at_ d p.dest).2≠0
  ·rw[if_pos hb]
   have q1:=zG hb
   generalize Fs.at_ d p.dest=B at*
   obtain⟨⟨dir2,s2⟩,E2⟩:=B
   simp only at q1
   obtain⟨pk,pp,pd,ph,pa,pn,px,py,pb⟩:=p
   simp only[OpD.cells] at hk CA CB hbp hbs ⊢
   subst hk
   clear h hp hb
   unfold fsL at hM
   go_enter Tryz.func66,Tryz.ntmps66
   (refine qw ?_;intros;rename_i hM)
   (refine qCB (CA.out _ β (hM.fs qpt HI.out HX.out F0)) hM ?_;clear hM;intro w' hM)
   (refine qw ?_;intros;rename_i hM)
   (refine qCB (CB.out _ β (hM.fs qpt HI.out HX.out F0)) hM ?_;clear hM;intro w' hM)
   (refine qw ?_;intros;rename_i hM)
   (refine qf ?_)
   exact⟨rfl,β,hM.forget.forget.forget⟩
  rw[if_neg hb]
  have hb0:(Fs.at_ d p.dest).2=0:=Decidable.not_not.1 hb
  rw[hb0] at CB
  have hdf2:Fits (Fs.at_ d p.dest).1.1:=Zy (by omega) (by omega)
  have hss2:(Fs.at_ d p.dest).1.2.size≤maxLen:=by unfold maxLen;omega
  generalize (Fs.at_ d p.dest).1.1=dir2 at*
  generalize (Fs.at_ d p.dest).1.2=s2 at*
  clear hb hb0
  obtain⟨pk,pp,pd,ph,pa,pn,px,py,pb⟩:=p
  simp only[OpD.cells] at hk CA CB hbp hbs ⊢
  subst hk
  clear h hp
  unfold fsL at hM
  go_enter Tryz.func66,Tryz.ntmps66
  (refine qw ?_;intros;rename_i hM)
  (refine qCB (CA.out _ β (hM.fs qpt HI.out HX.out F0)) hM ?_;clear hM;intro w' hM)
  (refine qw ?_;intros;rename_i hM)
  (refine qCB (CB.out _ β (hM.fs qpt HI.out HX.out F0)) hM ?_;clear hM;intro w' hM)
  (refine qw ?_;intros;rename_i hM)
  (refine qK3 (fun R hR=> ?_))
  refine(zhL (hM.part (M:=tblL x.g x.mb β d.t) qpt).tbl FI hdf hdf2 hss hss2).mono ?_
  (rintro e w' ⟨rfl,hS⟩;obtain⟨β,hN⟩:=hS.st;replace hM:=hM.backM qsw zD hN zD;clear hN hS;refine hR.out _ _ ?_;clear hR R;(refine qq ?_))
  (refine qw ?_;intros;rename_i hM)
  (refine qf ?_)
  exact⟨rfl,β,hM.forget.forget.forget⟩
theorem zmY{d:FsD}{p:ByteArray}(h1:(Fs.walk d p).2≠0):Fs.lists d p=Fs.errR (Fs.walk d p).2:=if_pos h1
theorem zmf{d:FsD}{p:ByteArray}(h1:¬(Fs.walk d p).2≠0):Fs.lists d p=⟨In.listE d.t (Fs.walk d p).1,0,⟨#[]⟩,In.list d.t (Fs.walk d p).1⟩:=if_neg h1
def zor(r:ResD)(w:World)(e:Ending)(w':World):Prop:= ∃ s,e= .returned (.agg #[.int .i64 r.err,.int .i64 r.n,.string r.data,slV s r.names.length])∧TxOK s r.names∧St w [] w' (txL s r.names)
theorem zkd(h:FsAt N x β d w)(hN:N≤999999990)(p:ByteArray)(hp:p.size≤1000000):
  Calls Tryz.prog 65 #[.pointer (some ⟨x.f,0,none⟩),.string p] w (zor (Fs.lists d p) w):=by
 have hM:=h.at_.ro
 unfold fsL at hM
 simp only[laDz,zx] at hM
 have CW:=qh (fun (W:World) (hb:Below w.heap.size w W)=>zgX (h.below hb) (by omega) p hp)
 have FI:=YP h.inv.tbl (by omega)
 have hwp:=zaH h.inv.tbl (Pt.parts p) 1 (by have:=h.inv.tbl.last;omega)
 change 0≤(Fs.walk d p).1∧(Fs.walk d p).1≤_ at hwp
 by_cases hE:(Fs.walk d p).2≠0
 ·rw[zmY hE]
  have q1:=zG hE
  generalize Fs.walk d p=R at*
  obtain⟨id,E⟩:=R
  simp only at CW q1 ⊢
  clear h hE
  go_enter Tryz.func65,Tryz.ntmps65
  (refine qw ?_;intros;rename_i hM)
  (refine qCB (CW.out _ hM.to_below) hM ?_;clear hM;intro w' hM)
  (refine qw ?_;intros;rename_i hM)
  (refine qf ?_)
  exact⟨none,rfl,⟨rfl,rfl⟩,hM.drop nofun lcHz⟩
 ·rw[zmf hE]
  have he0:(Fs.walk d p).2=0:=Decidable.not_not.1 hE
  rw[he0] at CW
  have hif:Fits (Fs.walk d p).1:=Zy (by omega) (by omega)
  have CL:=qh (fun (W:World) (hb:Below w.heap.size w W)=>zjw (h.below hb).tbl FI.q0 hif (zkr h.inv.tbl (by omega)))
  unfold zgv at CL
  generalize (Fs.walk d p).1=id at*
  generalize In.listE d.t id=E at*
  generalize In.list d.t id=l at*
  clear h hE he0
  go_enter Tryz.func65,Tryz.ntmps65
  (refine qw ?_;intros;rename_i hM)
  (refine qCB (CW.out _ hM.to_below) hM ?_;clear hM;intro w' hM)
  (refine qw ?_;intros;rename_i hM)
  (refine qK3 (fun R hR=> ?_))
  refine(CL.out _ hM.to_below).mono ?_
  rintro e w' ⟨sl,rfl,hok,hN2⟩
  refine hR.out _ _ ?_;clear hR R;replace hM:=hM.madeM hN2 (zL _ _);clear hN2
  obtain⟨la,lc,hsv,-⟩:=zf hok
  rw[hsv]
  have HV:=qh hsv
  have HK:=qh hok
  clear hsv hok
  replace hM:=hM.perm (lcWz)
  simp only[laIz] at hM
  (refine qq ?_)
  (refine qw ?_;intros;rename_i hM)
  (refine qf ?_)
  refine⟨sl,by rw[HV.out];rfl,HK.out, ?_⟩
  exact hM.forget.forget.forget.subL (laFz _ _)
end
end
section
open Go.RowKit
theorem zkp(o:OpD)(w:World)(ho:o.Ok)(hm:Mx w):An 62 #[.agg o.cells.toArray] w (.bool (Pt.right o)):=by
 have hM:=St.start w []
 have C1:=qh (fun (W:World) (h:Below w.heap.size w W)=>zbv o.path W ho.path (hm.below h))
 have C2:=qh (fun (W:World) (h:Below w.heap.size w W)=>zbv o.dest W ho.dest (hm.below h))
 clear ho hm
 unfold Pt.right
 obtain⟨k,p,t,hh,ha,hn,hd,hp,hb⟩:=o
 simp only[OpD.cells] at C1 C2 ⊢
 have hcases:(k=5∨k=6∨k=7∨k=8∨k=9)∨(k=1∨k=2∨k=3∨k=4∨k=11)∨(k=10∨k=12)∨k=13∨((k==5)=false∧(k==6)=false∧(k==7)=false∧(k==8)=false∧(k==9)=false∧(k==1)=false∧(k==2)=false∧(k==3)=false∧(k==4)=false∧(k==11)=false∧(k==10)=false∧(k==12)=false∧(k==13)=false):=by
  simp only[beq_eq_false_iff_ne,ne_eq]
  omega
 rcases hcases with h|h|h|h|⟨a1,a2,a3,a4,a5,a6,a7,a8,a9,a10,a11,a12,a13⟩
 ·rw[if_pos h]
  rcases h with rfl|rfl|rfl|rfl|rfl
  all_goals
   go_enter Tryz.func62,Tryz.ntmps62
   exact qwf
 ·rw[if_neg (by omega),if_pos h]
  generalize Pt.isPath p=b at*
  rcases h with rfl|rfl|rfl|rfl|rfl
  all_goals
   go_enter Tryz.func62,Tryz.ntmps62
   (repeat(first|(first|(refine qW ?_;clear hM;intros;rename_i hM)|((refine qMk ?_);clear hM;intro w bk hM))|((refine qK (fun R hR=> ?_));first|((with_reducible refine(C1.out _ hM.to_below).mono ?_);(refine qJ hR hM ?_;clear hR R hM;intro w' hM)))))
   exact qfb
 ·rw[if_neg (by omega),if_neg (by omega),if_pos h]
  generalize Pt.isPath p=b at*
  generalize Pt.isPath t=b2 at*
  rcases h with rfl|rfl
  all_goals cases b
  all_goals
   go_enter Tryz.func62,Tryz.ntmps62
   (repeat(first|(first|(refine qW ?_;clear hM;intros;rename_i hM)|((refine qMk ?_);clear hM;intro w bk hM))|((refine qK (fun R hR=> ?_));first|((with_reducible refine(C1.out _ hM.to_below).mono ?_);(refine qJ hR hM ?_;clear hR R hM;intro w' hM))|((with_reducible refine(C2.out _ hM.to_below).mono ?_);(refine qJ hR hM ?_;clear hR R hM;intro w' hM)))))
   exact qfb
 ·rw[if_neg (by omega),if_neg (by omega),if_neg (by omega),if_pos h]
  subst h
  by_cases h0:p.data.toList=[]
  ·have q1:=Zn h0
   rw[h0]
   clear h0
   go_enter Tryz.func62,Tryz.ntmps62
   exact qwf
  ·have q1:=Zt h0
   rw[qne.2 h0]
   generalize Pt.isPath p=b at*
   clear h0
   go_enter Tryz.func62,Tryz.ntmps62
   (repeat(first|(first|(refine qW ?_;clear hM;intros;rename_i hM)|((refine qMk ?_);clear hM;intro w bk hM))|((refine qK (fun R hR=> ?_));first|((with_reducible refine(C1.out _ hM.to_below).mono ?_);(refine qJ hR hM ?_;clear hR R hM;intro w' hM)))))
   (refine qf ?_)
   exact⟨by simp[tup],hM.to_below⟩
 ·have n0: ∀ i:Int,(k==i)=false→k≠i:=fun i h=>beq_eq_false_iff_ne.1 h
  have b1:=n0 _ a1;have b2:=n0 _ a2;have b3:=n0 _ a3;have b4:=n0 _ a4;have b5:=n0 _ a5;have b6:=n0 _ a6;have b7:=n0 _ a7
  have b8:=n0 _ a8;have b9:=n0 _ a9;have b10:=n0 _ a10;have b11:=n0 _ a11;have b12:=n0 _ a12;have b13:=n0 _ a13
  rw[if_neg (by omega),if_neg (by omega),if_neg (by omega),if_neg (by omega)]
  clear n0 b1 b2 b3 b4 b5 b6 b7 b8 b9 b10 b11 b12 b13
  go_enter Tryz.func62,Tryz.ntmps62
  exact qwf
end
section
open Go.RowKit Go.Maps
section
variable {N:Nat}{x:FsX}{β:Int→Nat×Nat}{d:FsD}{w w' w0:World}{F:List Nat}{L L' M':List Ent}
def zoZ(w:World)(x:FsX)(β:Int→Nat×Nat)(d:FsD)(r:ResD×FsD)(e:Ending)(w':World):Prop:=
 ∃ s β',e= .returned (.agg #[.int .i64 r.1.err,.int .i64 r.1.n,.string r.1.data,slV s r.1.names.length])∧TxOK s r.1.names∧St w (ze (fsL x β d)) w' (txL s r.1.names++fsL x β' r.2)
theorem zpg{d:FsD}{o:Int}{p:OpD}(h:Pt.right p=false):Fs.do_ d o p=(Fs.errR 1,d):=if_pos h
theorem zmD{d:FsD}{o:Int}{p:OpD}(h:¬Pt.right p=false)(hk:p.kind=3∨p.kind=4):Fs.do_ d o p=Fs.opens d o p:=by
 unfold Fs.do_;rw[if_neg h,if_pos hk]
theorem ziC{d:FsD}{o:Int}{p:OpD}(h:¬Pt.right p=false)(hk:p.kind=5∨p.kind=6∨p.kind=7∨p.kind=8∨p.kind=9):Fs.do_ d o p=Fs.handled d o p:=by
 unfold Fs.do_;rw[if_neg h,if_neg (by omega),if_pos hk]
theorem zmO{d:FsD}{o:Int}{p:OpD}(h:¬Pt.right p=false)(hk:p.kind=13):Fs.do_ d o p=(Fs.lists d p.path,d):=by
 unfold Fs.do_;rw[if_neg h,if_neg (by omega),if_neg (by omega),if_pos hk]
theorem zmM{d:FsD}{o:Int}{p:OpD}(h:¬Pt.right p=false)(hk:p.kind=1∨p.kind=2∨p.kind=11∨p.kind=10∨p.kind=12):Fs.do_ d o p=(Fs.errR (Fs.named d p).1,⟨(Fs.named d p).2,d.h⟩):=by
 unfold Fs.do_;rw[if_neg h,if_neg (by omega),if_neg (by omega),if_neg (by omega)]
theorem zhK{p:OpD}(h:¬Pt.right p=false):(p.kind=3∨p.kind=4)∨(p.kind=5∨p.kind=6∨p.kind=7∨p.kind=8∨p.kind=9)∨p.kind=13∨(p.kind=1∨p.kind=2∨p.kind=11∨p.kind=10∨p.kind=12):=by
 by_cases hk:(p.kind=3∨p.kind=4)∨(p.kind=5∨p.kind=6∨p.kind=7∨p.kind=8∨p.kind=9)∨p.kind=13∨(p.kind=1∨p.kind=2∨p.kind=11∨p.kind=10∨p.kind=12)
 ·exact hk
 ·refine absurd ?_ h
  unfold Pt.right
  rw[if_neg (by omega),if_neg (by omega),if_neg (by omega),if_neg (by omega)]
theorem zfr(d:FsD)(o:Int)(p:OpD):(Fs.opens d o p).1.names=[]:=by
 unfold Fs.opens Fs.gives Fs.errR
 repeat' split
 all_goals rfl
theorem zdj(d:FsD)(o:Int)(p:OpD):(Fs.handled d o p).1.names=[]:=by
 unfold Fs.handled Fs.errR
 repeat' split
 all_goals rfl
theorem zcJ(h:FsAt N x β d w)(hN:N≤999999990){o:Int}(ho:Fits o)(p:OpD)(hp:p.Ok):
  Calls Tryz.prog 16 #[.pointer (some ⟨x.f,0,none⟩),.int .i64 o,.agg p.cells.toArray] w (zoZ w x β d (Fs.do_ d o p)):=by
 have hM:=h.at_.st
 unfold zoZ
 obtain⟨F,hF⟩: ∃ F,ze (fsL x β d)=F:=⟨_,rfl⟩
 rw[hF] at hM ⊢
 have F0:0∉F:=hF▸h.zero
 clear hF
 have HI:=qh h.inv
 have HX:=qh h.mx
 have CG:=qh (fun (W:World) (β':Int→Nat×Nat) (hA:FsAt N x β' d W)=>yy hA)
 have CR:=qh (fun (W:World) (hm:Mx W)=>zkp p W hp hm)
 by_cases hr:Pt.right p=false
 ·rw[zpg hr]
  rw[hr] at CR
  obtain⟨pk,pp,pd,ph,pa,pn,px,py,pb⟩:=p
  simp only[OpD.cells] at CR ⊢
  clear h hp hr
  unfold fsL at hM
  go_enter Tryz.func16,Tryz.ntmps16
  (refine qw ?_;intros;rename_i hM)
  (refine qK3 (fun R hR=> ?_))
  refine(CG.out _ β (hM.fs qpt HI.out HX.out F0)).mono ?_
  (refine qgs ?_;clear hR R)
  (refine qw ?_;intros;rename_i hM)
  (refine qCB (CR.out _ (hM.mx HX.out F0)) hM ?_;clear hM;intro w' hM)
  (refine qw ?_;intros;rename_i hM)
  (refine qf ?_)
  exact⟨none,β,rfl,⟨rfl,rfl⟩,hM.forget.forget⟩
 ·have hr1:Pt.right p=true:=by simpa using hr
  rw[hr1] at CR
  rcases zhK hr with hk|hk|hk|hk
  ·rw[zmD hr hk]
   have hnm:=zfr d o p
   have CO:=qh (fun (W:World) (β':Int→Nat×Nat) (hA:FsAt N x β' d W)=>zlj hA hN ho p hp hk)
   generalize Fs.opens d o p=G at*
   obtain⟨⟨re,rn,rd,rl⟩,d'⟩:=G
   obtain rfl:rl=[]:=hnm
   obtain⟨pk,pp,pd,ph,pa,pn,px,py,pb⟩:=p
   simp only[OpD.cells] at CR CO hk ⊢
   clear h hp hr hr1
   unfold fsL at hM
   unfold resV at CO
   rcases hk with rfl|rfl
   all_goals
    go_enter Tryz.func16,Tryz.ntmps16
    (refine qw ?_;intros;rename_i hM)
    (refine qK3 (fun R hR=> ?_))
    refine(CG.out _ β (hM.fs qpt HI.out HX.out F0)).mono ?_
    (refine qgs ?_;clear hR R)
    (refine qw ?_;intros;rename_i hM)
    (refine qCB (CR.out _ (hM.mx HX.out F0)) hM ?_;clear hM;intro w' hM)
    (refine qw ?_;intros;rename_i hM)
    (refine qK3 (fun R hR=> ?_))
    refine(CO.out _ β (hM.fs qpt HI.out HX.out F0)).mono ?_
    (rintro e w' ⟨rfl,β,hN⟩;replace hM:=hM.backM qsw (zr _ _ _) hN (zr _ _ _);clear hN;refine hR.out _ _ ?_;clear hR R;unfold fsL at hM;(refine qq ?_))
    (refine qw ?_;intros;rename_i hM)
    (refine qf ?_)
    exact⟨none,β,rfl,⟨rfl,rfl⟩,hM.forget.forget⟩
  ·rw[ziC hr hk]
   have hnm:=zdj d o p
   have CO:=qh (fun (W:World) (β':Int→Nat×Nat) (hA:FsAt N x β' d W)=>zeS hA (by omega) ho p hp hk)
   generalize Fs.handled d o p=G at*
   obtain⟨⟨re,rn,rd,rl⟩,d'⟩:=G
   obtain rfl:rl=[]:=hnm
   obtain⟨pk,pp,pd,ph,pa,pn,px,py,pb⟩:=p
   simp only[OpD.cells] at CR CO hk ⊢
   clear h hp hr hr1
   unfold fsL at hM
   unfold resV at CO
   rcases hk with rfl|rfl|rfl|rfl|rfl
   all_goals
    go_enter Tryz.func16,Tryz.ntmps16
    (refine qw ?_;intros;rename_i hM)
    (refine qK3 (fun R hR=> ?_))
    refine(CG.out _ β (hM.fs qpt HI.out HX.out F0)).mono ?_
    (refine qgs ?_;clear hR R)
    (refine qw ?_;intros;rename_i hM)
    (refine qCB (CR.out _ (hM.mx HX.out F0)) hM ?_;clear hM;intro w' hM)
    (refine qw ?_;intros;rename_i hM)
    (refine qK3 (fun R hR=> ?_))
    refine(CO.out _ β (hM.fs qpt HI.out HX.out F0)).mono ?_
    (rintro e w' ⟨rfl,β,hN⟩;replace hM:=hM.backM qsw (zr _ _ _) hN (zr _ _ _);clear hN;refine hR.out _ _ ?_;clear hR R;unfold fsL at hM;(refine qq ?_))
    (refine qw ?_;intros;rename_i hM)
    (refine qf ?_)
    exact⟨none,β,rfl,⟨rfl,rfl⟩,hM.forget.forget⟩
  ·rw[zmO hr hk]
   have CO:=qh (fun (W:World) (β':Int→Nat×Nat) (hA:FsAt N x β' d W)=>zkd hA hN p.path hp.path)
   generalize Fs.lists d p.path=G at*
   obtain⟨re,rn,rd,rl⟩:=G
   obtain⟨pk,pp,pd,ph,pa,pn,px,py,pb⟩:=p
   simp only[OpD.cells] at CR CO hk ⊢
   clear h hp hr hr1
   unfold fsL at hM
   subst hk
   go_enter Tryz.func16,Tryz.ntmps16
   (refine qw ?_;intros;rename_i hM)
   (refine qK3 (fun R hR=> ?_))
   refine(CG.out _ β (hM.fs qpt HI.out HX.out F0)).mono ?_
   (refine qgs ?_;clear hR R)
   (refine qw ?_;intros;rename_i hM)
   (refine qCB (CR.out _ (hM.mx HX.out F0)) hM ?_;clear hM;intro w' hM)
   (refine qw ?_;intros;rename_i hM)
   (refine qK3 (fun R hR=> ?_))
   refine(CO.out _ β (hM.fs qpt HI.out HX.out F0)).mono ?_
   rintro e w' ⟨sl,rfl,hok,hN2⟩
   refine hR.out _ _ ?_;clear hR R;replace hM:=hM.madeM hN2 (zL _ _);clear hN2
   obtain⟨la,lc,hsv,-⟩:=zf hok
   rw[hsv]
   have HV:=qh hsv
   have HK:=qh hok
   clear hsv hok
   replace hM:=hM.perm (lcWz)
   simp only[laIz] at hM
   (refine qq ?_)
   (refine qw ?_;intros;rename_i hM)
   (refine qf ?_)
   refine⟨sl,β,by rw[HV.out];rfl,HK.out, ?_⟩
   exact(hM.forget.forget.perm (L':=txL sl rl++fsL x β d) (lcWz (l₁:=fsL x β d)))
  ·rw[zmM hr hk]
   have CO:=qh (fun (W:World) (β':Int→Nat×Nat) (hA:FsAt N x β' d W)=>ziV hA hN p hp hk)
   generalize Fs.named d p=G at*
   obtain⟨E,t1⟩:=G
   obtain⟨pk,pp,pd,ph,pa,pn,px,py,pb⟩:=p
   simp only[OpD.cells] at CR CO hk ⊢
   clear h hp hr hr1
   unfold fsL at hM
   rcases hk with rfl|rfl|rfl|rfl|rfl
   all_goals
    go_enter Tryz.func16,Tryz.ntmps16
    (refine qw ?_;intros;rename_i hM)
    (refine qK3 (fun R hR=> ?_))
    refine(CG.out _ β (hM.fs qpt HI.out HX.out F0)).mono ?_
    (refine qgs ?_;clear hR R)
    (refine qw ?_;intros;rename_i hM)
    (refine qCB (CR.out _ (hM.mx HX.out F0)) hM ?_;clear hM;intro w' hM)
    (refine qw ?_;intros;rename_i hM)
    (refine qK3 (fun R hR=> ?_))
    refine(CO.out _ β (hM.fs qpt HI.out HX.out F0)).mono ?_
    (rintro e w' ⟨rfl,β,hN⟩;replace hM:=hM.backM qsw (zr _ _ _) hN (zr _ _ _);clear hN;refine hR.out _ _ ?_;clear hR R;unfold fsL at hM;(refine qq ?_))
    (refine qw ?_;intros;rename_i hM)
    (refine qf ?_)
    exact⟨none,β,rfl,⟨rfl,rfl⟩,hM.forget.forget⟩
end
end
end Go.Proofs.YtcicjklhbnipcaaGreatDoor
