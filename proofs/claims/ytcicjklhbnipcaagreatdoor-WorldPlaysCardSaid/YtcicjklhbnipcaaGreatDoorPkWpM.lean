/-
  Laid texts.
-/
import Derived.Test.YtcicjklhbnipcaaGreatDoorPkWpL
set_option maxHeartbeats 16000000
set_option maxRecDepth 1000000
set_option linter.unusedVariables false
set_option linter.unusedSimpArgs false
namespace Go.Proofs.YtcicjklhbnipcaaGreatDoor
section
namespace In
section
variable {N:Nat}{t t':TabD}
theorem Ag(k:Int):(gone t k).last=t.last:=by unfold gone;split<;> rfl
theorem js(dir:Int)(s:ByteArray):(loses t dir s).last=t.last:=by unfold loses;rw[Ag];rfl
theorem kf(k:Int):(drop t k).2.last=t.last:=by
 unfold drop
 split
 ·exact Ag k
 ·rfl
theorem jt(I:Inv N t)(k c:Int):(at_ (drop t k).2 c).names=(at_ t c).names:=by
 have hl:=en (t:=t) k
 unfold drop at hl ⊢
 split
 ·rename_i he
  rw[if_pos he] at hl
  have he':dropE t k=0:=by simpa using he
  unfold dropE at he'
  cases hf:find t.nodes k with
  |none=>rw[hf] at he';simp at he'
  |some n=>
   rw[hf] at he'
   have hh:n.holds≠0:=fun e=>by simp[e] at he'
   have hnd:n.dir=false:=by
    cases hd:n.dir with
    |false=>rfl
    |true=>exact absurd ((I.dirs n (find_some hf).1 hd).1) hh
   have hnn:=I.files n (find_some hf).1 hnd
   by_cases hc:c=k
   ·subst hc
    rw[at_some hf,hnn]
    cases hf2:find (gone (holdsDown t c) c).nodes c with
    |none=>unfold at_;rw[hf2]
    |some m=>
     obtain⟨m1,h1,-,h2⟩:=hl c m hf2
     rw[hf] at h1
     cases h1
     rw[at_some hf2]
     cases hm:m.names with
     |nil=>rfl
     |cons p r=>
      have:=h2 p (by rw[hm];exact .head _)
      rw[hnn] at this
      cases this
   ·have e:find (gone (holdsDown t k) k).nodes c=find t.nodes c:=by rw[YQ hc,yX hf,if_neg hc]
    unfold at_
    rw[e]
 ·rfl
end
end In
namespace Fs
section
variable {N:Nat}{d:FsD}
theorem FQ(I:Inv N d)(L:ao d.t)(o:Int)(n:Nat):files (closes d o n)=files d:=by
 have L':=yO I L o n
 have I':=In.inv_drop I.tbl ((hOf d.h o).getD n 0)
 rw[dS L',dS L]
 have hT:T (closes d o n)=T d:=by
  unfold T closes
  simp only
  rw[In.kf]
  exact In.fJ (fun c=>In.jt I.tbl _ c) _ _ _
 rw[←hT]
 refine lbVz fun e he=> ?_
 exact wq (t:=d.t) (t':=(closes d o n).t) I' (In.ld _) (iz (d:=closes d o n) I' he).2
theorem xr(o:Int): ∀ (l:List Int) (n:Nat) (d:FsD) (N:Nat),Inv N d→ao d.t→(∀ j,l[j]? =(hOf d.h o)[n+j]?)→files (exitL o l n d)=files d
 |[],_,_,_,_,_,_=>rfl
 |i::r,n,d,N,I,L,hl=>by
  unfold exitL
  have h0:=hl 0
  rw[lbPz,Nat.add_zero] at h0
  split
  ·rename_i hi
   rw[xr o r (n+1) _ N (xA I (n:=n) (by rw[lbDz,←h0];exact hi)) (yO I L o n) fun j=> ?_,FQ I L]
   have hj:=hl (j+1)
   rw[lbFz] at hj
   unfold closes
   simp only
   rw[bA,if_pos rfl,ldHz (by omega),hj]
   congr 1
   omega
  ·refine xr o r (n+1) _ N I L fun j=> ?_
   have hj:=hl (j+1)
   rw[lbFz] at hj
   rw[hj]
   congr 1
   omega
theorem FR(I:Inv N d)(L:ao d.t)(o:Int):files (exit d o)=files d:=xr o _ 0 d N I L fun j=>by rw[Nat.zero_add]
theorem eV: ∀ (l:List Int) (d:FsD),Inv N d→ao d.t→files (l.foldl exit d)=files d∧ao (l.foldl exit d).t
 |[],_,_,L=>⟨rfl,L⟩
 |o::r,d,I,L=>by
  rw[ldKz]
  have:=eV r (exit d o) (bP I o) (cH I L o)
  rw[FR I L] at this
  exact this
theorem l_(I:Ol.aH N d)(L:ao d.t){A B:List (List ByteArray×Int)}{x:List ByteArray×Int}(hT:T d=A++x::B)(hc:(In.at_ d.t x.2).names=[]):
  let d':=(do_ d 0 (gL (if(fileOf d.t x).dir then 2 else 11) (fileOf d.t x).path)).2
  ao d'.t∧T d'=A++B∧ ∀ e∈T d',fileOf d'.t e=fileOf d.t e:=by
 have It:=I.inv.tbl
 obtain⟨x1,x2⟩:=x
 have hx:=iz It (e:=(x1,x2)) (by rw[hT];simp)
 obtain⟨hne,hg,h0⟩:=hx
 simp only at hne hg h0 hc
 rcases lcDz x1 with rfl|⟨q,s,rfl⟩
 ·exact absurd rfl hne
 rw[lcEz] at hT hne hg ⊢
 have hok:=L.paths _ hne (by rw[hg];exact h0)
 have hs:=hok.names s (by simp)
 have ma:In.leads (In.at_ d.t (In.go d.t 1 q)).names s=x2:=by rw[←hg,In.go_snoc]
 have Ah:In.go d.t 1 q≠0:=In.go_front It (b:=[s]) (by rw[hg];exact h0)
 have l4:(In.at_ d.t (In.go d.t 1 q)).dir=true:=In.iv It (s:=s) (by rw[hg];exact h0)
 obtain⟨f1,f2⟩:=wm It hs (id:=In.go d.t 1 q) (by rw[ma];exact h0)
 rw[ma] at f2
 obtain⟨n,hn⟩:=In.go_there It (q:=q++[s]) (by rw[hg];exact h0)
 rw[hg] at hn
 have hat:=In.at_some hn
 have pS:(fileOf d.t (q++[s],x2)).path=Pt.joined (q++[s]):=rfl
 have hdir:(fileOf d.t (q++[s],x2)).dir=n.dir:=by show(In.at_ d.t x2).dir=_;rw[hat]
 rw[pS,hdir]
 have hw:at_ d (Pt.joined (q++[s]))=((In.go d.t 1 q,s),0):=by
  unfold at_ walk
  rw[Pt.dN hs]
  simp only
  rw[Pt.aU (fun z hz=>hok.names z (by simp[hz])),wo It q 1 (fun z hz=>hok.names z (by simp[hz])) Ah]
 have FT:(do_ d 0 (gL (if n.dir then 2 else 11) (Pt.joined (q++[s])))).2=⟨In.loses d.t (In.go d.t 1 q) s,d.h⟩:=by
  have pT:Pt.isPath (Pt.joined (q++[s]))=true:=Pt.dx hok
  cases hnd:n.dir with
  |true=>
   rw[if_pos rfl]
   have hr:Pt.right (gL 2 (Pt.joined (q++[s])))=true:=pT
   unfold do_
   rw[if_neg (by rw[hr];simp),if_neg (by show ¬((2:Int)=3∨(2:Int)=4);decide),if_neg (by show ¬((2:Int)=5∨(2:Int)=6∨(2:Int)=7∨(2:Int)=8∨(2:Int)=9);decide),if_neg (by show ¬((2:Int)=13);decide)]
   show(⟨(named d (gL 2 (Pt.joined (q++[s])))).2,d.h⟩:FsD)=_
   have hE:In.removeE d.t (In.go d.t 1 q) s=0:=by
    unfold In.removeE
    rw[f1,f2]
    have:In.getE d.t x2 true=0:=by unfold In.getE;rw[hn];simp[hnd]
    rw[this,hc]
    rfl
   unfold named
   rw[show(gL 2 (Pt.joined (q++[s]))).path=Pt.joined (q++[s]) from rfl,hw,if_neg (by simp)]
   unfold namedAt
   rw[if_neg (by show ¬((2:Int)=1);decide),if_pos (by rfl)]
   unfold In.remove
   rw[hE]
   rfl
  |false=>
   rw[if_neg (by simp)]
   have hr:Pt.right (gL 11 (Pt.joined (q++[s])))=true:=pT
   unfold do_
   rw[if_neg (by rw[hr];simp),if_neg (by show ¬((11:Int)=3∨(11:Int)=4);decide),if_neg (by show ¬((11:Int)=5∨(11:Int)=6∨(11:Int)=7∨(11:Int)=8∨(11:Int)=9);decide),if_neg (by show ¬((11:Int)=13);decide)]
   show(⟨(named d (gL 11 (Pt.joined (q++[s])))).2,d.h⟩:FsD)=_
   have hE:In.unlinkE d.t (In.go d.t 1 q) s=0:=by
    unfold In.unlinkE
    rw[f1,f2]
    have:In.getE d.t x2 false=0:=by unfold In.getE;rw[hn];simp[hnd]
    rw[this]
    rfl
   unfold named
   rw[show(gL 11 (Pt.joined (q++[s]))).path=Pt.joined (q++[s]) from rfl,hw,if_neg (by simp)]
   unfold namedAt
   rw[if_neg (by show ¬((11:Int)=1);decide),if_neg (by show ¬((11:Int)=2);decide),if_pos (by rfl)]
   unfold In.unlink
   rw[hE]
   rfl
 have hdf:=In.bK l4
 have hl':In.leads (In.at_ d.t (In.go d.t 1 q)).names s≠0:=by rw[ma];exact h0
 have tA:In.Inv N (In.loses d.t (In.go d.t 1 q) s):=In.inv_loses It hdf l4 hl' (o:=n) (by rw[ma];exact hn) (fun _=>by rw[←hat];exact hc)
 have mG:=In.bO (t:=d.t) (In.go d.t 1 q) s
 have L':ao (In.loses d.t (In.go d.t 1 q) s):=ZW It tA L mG
 have FU:x2≠In.go d.t 1 q:=fun e=>by
  have hm:=In.leads_mem hl'
  rw[←e,hc] at hm
  cases hm
 have nK: ∀ c,c≠In.go d.t 1 q→(In.at_ (In.loses d.t (In.go d.t 1 q) s) c).names=(In.at_ d.t c).names:=fun c FV=>by
  by_cases Ai:c=x2
  ·rw[Ai,hc]
   cases hf:In.find (In.loses d.t (In.go d.t 1 q) s).nodes x2 with
   |none=>unfold In.at_;rw[hf]
   |some m=>
    obtain⟨m1,h1,-,h2⟩:=mG x2 m hf
    rw[In.at_some hf]
    cases hm:m.names with
    |nil=>rfl
    |cons p r=>
     have:=h2 p (by rw[hm];exact .head _)
     rw[←In.at_some h1,hc] at this
     cases this
  ·have e:=In.find_loses (x:=c) hdf (n:=n) (by rw[ma];exact hn) (by rw[ma];exact Ai)
   rw[if_neg FV] at e
   unfold In.at_
   rw[e]
 have hD:(In.at_ (In.loses d.t (In.go d.t 1 q) s) (In.go d.t 1 q)).names=In.without (In.at_ d.t (In.go d.t 1 q)).names s:=by
  have e:=In.find_loses (x:=In.go d.t 1 q) hdf (n:=n) (by rw[ma];exact hn) (by rw[ma];exact FU.symm)
  rw[if_pos rfl] at e
  rw[In.at_some e]
  rfl
 rw[FT]
 refine⟨L', ?_,fun e he=>wq (t:=d.t) (t':=In.loses d.t (In.go d.t 1 q) s) tA (In.kc _ _) (iz (d:=⟨In.loses d.t (In.go d.t 1 q) s,d.h⟩) tA he).2⟩
 have h1:=In.iy It (s:=s) (PD:=q) rfl Ah l4 (by rw[ma];exact hc) nK hD d.t.last.toNat 1 [] rfl (by decide)
 have hp:=In.fI It d.t.last.toNat 1 []
 have pU:In.tree d.t d.t.last.toNat 1 []=A++(q++[s],x2)::B:=hT
 unfold T
 simp only
 rw[In.js,h1,pU]
 rw[pU] at hp
 obtain⟨-,d_,pv⟩:=ldGz.1 hp
 obtain⟨pB,-⟩:=laVz.1 d_
 rw[ldEz,lbNz,if_neg (by simp)]
 have e1:A.filter (fun e=>decide (e.1≠q++[s]))=A:=lcLz.2 fun a ha=>by
  simp only[ne_eq,decide_not,Bool.not_eq_true',decide_eq_false_iff_not]
  intro e
  exact pv a ha _ (.head _) (by rw[e];exact List.prefix_refl _)
 have e2:B.filter (fun e=>decide (e.1≠q++[s]))=B:=lcLz.2 fun a ha=>by
  simp only[ne_eq,decide_not,Bool.not_eq_true',decide_eq_false_iff_not]
  intro e
  exact pB a ha (by rw[e];exact List.prefix_refl _)
 rw[e1,e2]
end
end Fs
namespace Ol
section
variable {N:Nat}{d:FsD}
def keep(e:List ByteArray×Int):Bool:= !Pt.under (Pt.joined e.1) Pt.run
theorem FW:Pt.parts Pt.run=[Pt.run]:=by
 have h: ∀ s∈[Pt.run],Pt.aA s:=fun s hs=>by
  rcases laGz.1 hs with rfl
  exact⟨by decide,by decide⟩
 have:=Pt.aU h
 rwa [Pt.dD] at this
theorem Aj{l:List ByteArray}(h: ∀ s∈l,Pt.aA s):Pt.under (Pt.joined l) Pt.run=(decide (1<l.length)&&decide (l.take 1=[Pt.run])):=by
 unfold Pt.under
 rw[FW,Pt.aU h]
 rfl
theorem FX{l r:List ByteArray}(h: ∀ s∈l++r,Pt.aA s)(hu:Pt.under (Pt.joined l) Pt.run=true):Pt.under (Pt.joined (l++r)) Pt.run=true:=by
 rw[Aj fun s hs=>h s (by simp[hs])] at hu
 rw[Aj h]
 simp only[Bool.and_eq_true,decide_eq_true_eq] at hu ⊢
 obtain⟨h1,h2⟩:=hu
 refine⟨by rw[laNz];omega, ?_⟩
 rw[lcXz (by omega)]
 exact h2
theorem FY{f0:List ByteArray×Int→ah}{T0:List (List ByteArray×Int)}(h0:T0.Pairwise fun a b=>¬b.1 <+: a.1)(hf: ∀ e,(f0 e).path=Pt.joined e.1): ∀ (n:Nat) (A S:List (List ByteArray×Int)) (d:FsD),A.length=n→T0=A++S→aH N d→Fs.ao d.t→Fs.T d=A++S.filter keep→(∀ e∈Fs.T d,Fs.fileOf d.t e=f0 e)→
  Fs.ao ((A.map f0).reverse.foldl aw d).t∧Fs.T ((A.map f0).reverse.foldl aw d)=T0.filter keep∧ ∀ e∈T0.filter keep,Fs.fileOf ((A.map f0).reverse.foldl aw d).t e=f0 e:=by
 intro n
 induction n with
 |zero=>
  intro A S d hA hS I L hT he
  obtain rfl:=lbWz.1 hA
  rw[laJz] at hS hT
  rw[hT] at he
  rw[hS]
  exact⟨L,hT,he⟩
 |succ n ih=>
  intro A S d hA hS I L hT he
  rcases lcDz A with rfl|⟨A,x,rfl⟩
  ·cases hA
  rw[lcEz] at hA hS hT ⊢
  have hA':A.length=n:=by simpa using hA
  rw[lcAz,lcSz] at hS hT
  rw[laMz,ldDz,List.reverse_append,List.reverse_singleton,lcSz,ldKz]
  have hx:=Fs.iz I.inv.tbl (e:=x) (by rw[hT];simp)
  have FZ:=he x (by rw[hT];simp)
  have hok:=L.paths x.1 hx.1 (by rw[hx.2.1];exact hx.2.2)
  by_cases hk:Pt.under (Pt.joined x.1) Pt.run=true
  ·have oM:keep x=false:=by unfold keep;rw[hk];rfl
   have hc:(In.at_ d.t x.2).names=[]:=by
    cases hcn:(In.at_ d.t x.2).names with
    |nil=>rfl
    |cons p r=>
     exfalso
     have hp:p∈(In.at_ d.t x.2).names:=by rw[hcn];exact .head _
     have hcd:=In.cu I.inv.tbl (id:=x.2) (by rw[hcn];simp)
     have oN:In.go d.t 1 (x.1++[p.1])=p.2:=by rw[In.go_snoc,hx.2.1];exact In.bB I.inv.tbl hp
     have Ak:=In.dQ I.inv.tbl hp
     have tB:=In.depth I.inv.tbl I.up _ (q:=x.1) rfl (by rw[hx.2.1];exact hx.2.2) (by rw[hx.2.1];exact hcd)
     rw[hx.2.1] at tB
     have hlast:=(In.dq I.inv.tbl (In.bK hcd)).2
     have hm:=In.ix I.inv.tbl d.t.last.toNat 1 [] (x.1++[p.1]) (by simp) (by rw[laNz,lbQz];omega) (by rw[oN];exact Ak)
     rw[laJz,oN] at hm
     have hm':(x.1++[p.1],p.2)∈A++x::S.filter keep:=by rw[←hT];exact hm
     rw[hS] at h0
     obtain⟨-,-,h3⟩:=ldGz.1 h0
     rcases laAz.1 hm' with h4|h4
     ·exact h3 _ h4 x (.head _) (List.prefix_append _ _)
     ·rcases laBz.1 h4 with h5|h5
      ·have:=congrArg (fun e:List ByteArray×Int=>e.1.length) h5
       simp at this
      ·have h6:=(lbHz.1 h5).2
       have hok2:=L.paths (x.1++[p.1]) (by simp) (by rw[oN];exact Ak)
       unfold keep at h6
       rw[FX hok2.names hk] at h6
       cases h6
   obtain⟨L',pU,pL⟩:=Fs.l_ I L hT hc
   have ku:aw d (f0 x)=(Fs.do_ d 0 (gL (if(Fs.fileOf d.t x).dir then 2 else 11) (Fs.fileOf d.t x).path)).2:=by
    unfold aw
    rw[if_pos (by rw[hf];exact hk),FZ]
   have I':aH N (aw d (f0 x)):=cW I _
   rw[ku] at I' ⊢
   refine ih A (x::S) _ hA' hS I' L' ?_ fun e kA=> ?_
   ·rw[pU,lbNz,oM]
    rfl
   ·rw[pL e kA]
    refine he e ?_
    rw[pU] at kA
    rw[hT]
    rcases laAz.1 kA with h|h
    ·exact laEz _ h
    ·exact laCz _ (.tail _ h)
  ·have oM:keep x=true:=by
    unfold keep
    cases h:Pt.under (Pt.joined x.1) Pt.run with
    |true=>exact absurd h hk
    |false=>rfl
   have ku:aw d (f0 x)=d:=by
    unfold aw
    rw[if_neg (by rw[hf];exact hk)]
   rw[ku]
   refine ih A (x::S) d hA' hS I L ?_ he
   rw[hT,lbNz,oM]
   rfl
def bare(l:List ah):List ah:=l.filter fun x=> !Pt.under x.path Pt.run
theorem F3(I:aH N d)(L:Fs.ao d.t):Fs.files (ay d)=bare (Fs.files d)∧Fs.ao (ay d).t:=by
 have hF:=Fs.dS L
 obtain⟨h1,h2,h3⟩:=FY (N:=N) (f0:=Fs.fileOf d.t) (In.fI I.inv.tbl d.t.last.toNat 1 []) (fun _=>rfl) _ (Fs.T d) [] d rfl (laYz _).symm I L (laYz _).symm fun _ _=>rfl
 rw[←hF] at h1 h2 h3
 refine⟨?_,h1⟩
 have e:Fs.files (ay d)=(Fs.T (ay d)).map (Fs.fileOf (ay d).t):=Fs.dS h1
 have F4:Fs.T (ay d)=(Fs.T d).filter keep:=h2
 rw[e,F4]
 unfold bare
 rw[hF,ldJz]
 exact lbVz h3
theorem F5(I:aH N d)(L:Fs.ao d.t)(l:a_):Fs.ao (again d l).t:=by
 obtain⟨o,_|p⟩:=l
 ·exact Fs.cH I.inv L o
 ·exact Fs.iA I.inv L o p
theorem cJ: ∀ (l:List a_) {N:Nat} {d:FsD},(∀ x∈l,fF x)→aH N d→N+3*l.length≤999999990→Fs.ao d.t→Fs.ao (replay d l).t
 |[],_,_,_,_,_,h=>h
 |x::r,N,d,hl,I,hN,h=>by
  rw[laPz] at hN
  exact cJ r (fun y hy=>hl y (.tail _ hy)) (cE I (by omega) (hl x (.head _))) (by omega) (F5 I h x)
structure Lawful (D:ar):Prop where
 now:Fs.ao D.now.t
 base:Fs.ao D.base.t
variable {D:ar}{o:Int}{p:OpD}
theorem kg(I:Inv N D)(h:Lawful D):Lawful (do_ D o p).2:=by
 unfold do_
 split
 ·exact⟨h.now,h.now⟩
 ·exact⟨Fs.iA I.now.inv h.now o p,h.base⟩
theorem iF(I:Inv N D)(h:Lawful D):Lawful (exit D o):=by
 unfold exit
 split
 ·exact⟨Fs.cH I.now.inv h.now o,h.base⟩
 ·exact h
theorem kh(I:Inv N D)(h:Lawful D)(hN:N≤999999990)(k:Int):Fs.files (aW D k)=bare (Fs.files (replay D.base (D.log.take (max 0 (min k D.log.length)).toNat)))∧Fs.ao (aW D k).t:=by
 obtain⟨K,h1,h2⟩:=I.base
 have h3:=rD D k
 have hf:=yB (D.log.take (max 0 (min k D.log.length)).toNat) (fun x hx=>I.ok x (lcIz hx)) h1 (by omega)
 have hl:=cJ (D.log.take (max 0 (min k D.log.length)).toNat) (fun x hx=>I.ok x (lcIz hx)) h1 (by omega) h.base
 obtain⟨e1,e2⟩:=Fs.eV (N:=_) (Fs.af (replay D.base (D.log.take (max 0 (min k D.log.length)).toNat))) _ hf.inv hl
 obtain⟨e3,e4⟩:=F3 (vX hf) e2
 refine⟨?_,e4⟩
 unfold aW
 rw[e3]
 show bare (Fs.files (aY (replay D.base (D.log.take (max 0 (min k D.log.length)).toNat))))=_
 unfold aY
 rw[e1]
end
end Ol
end
section
open Go.RowKit Go.Maps
section
variable {P:Program}{K:Act→World→Prop}{a:Act}{w w0 w':World}{ops:Array Oper}{l:List (Oper×Nat)}{o:Oper}{F G:List Nat}{L Lr M M':List Ent}{ty:TypeId}
theorem At.only (h:At M w)(ho:Only F w w')(hF: ∀ k∈ze M,k∉F):At M w':=
 ⟨fun x hx=>by rw[ho.block x.1 (h.lt _ (laLz hx)) (hF _ (laLz hx))];exact h.has x hx,h.nd⟩
theorem St.beside(hM:St w0 F w L)(ho:Only G w w')(hG: ∀ k∈G,(k∈F∨w0.heap.size≤k)∧k∉ze L):St w0 F w' L:=
 ⟨hM.only.then ho fun k hk=>(hG k hk).1,fun x hx=>by rw[ho.block x.1 (hM.lt hx) (fun hm=>(hG _ hm).2 (laLz hx))];exact hM.holds x hx,hM.nd,hM.own⟩
theorem St.jP{A B:List Ent}(hM:St w0 F w (A++B)):St w0 F w (A.map zx++B):=by
 refine⟨hM.only,fun x hx=> ?_, ?_,fun x hx h1=> ?_⟩
 ·rcases laAz.1 hx with hx|hx
  ·obtain⟨y,hy,rfl⟩:=laKz.1 hx
   exact hM.holds y (laEz _ hy)
  ·exact hM.holds x (laCz _ hx)
 ·have:=hM.nd
  rw[laMz] at this ⊢
  have e:(A.map zx).map (·.1)=A.map (·.1):=by rw[lbZz];rfl
  rw[e]
  exact this
 ·rcases laAz.1 hx with hx|hx
  ·obtain⟨y,hy,rfl⟩:=laKz.1 hx
   cases h1
  ·exact hM.own x (laCz _ hx) h1
theorem St.reads(hM:St w0 F w L)(hA:At M w)(hd: ∀ k∈ze M,k∉ze L):St w0 F w (M.map zx++L):=by
 refine⟨hM.only,fun x hx=> ?_, ?_,fun x hx h1=> ?_⟩
 ·rcases laAz.1 hx with hx|hx
  ·obtain⟨y,hy,rfl⟩:=laKz.1 hx
   exact hA.has y hy
  ·exact hM.holds x hx
 ·show(ze (M.map zx++L)).Nodup
  rw[zF,Zp,laSz]
  exact⟨hA.nd,hM.nd,fun x hx y hy e=>hd x hx (e▸hy)⟩
 ·rcases laAz.1 hx with hx|hx
  ·obtain⟨y,hy,rfl⟩:=laKz.1 hx
   cases h1
  ·exact hM.own x hx h1
theorem Held.az{A B:List Ent}(hM:St w0 F w (A++(M++B)))(hs:Sub Lr A)(h':St w G w' M')(hG: ∀ k∈G,∃ r,(k,true,r)∈M)(hh:Held w0 F Lr w):Held w0 F Lr w':=by
 have hnd:=hM.nd
 simp only[laMz,laSz] at hnd
 obtain⟨n1,⟨n2,n3,n4⟩,n5⟩:=hnd
 refine⟨hh.only.then h'.only (fun k hk=> ?_),fun z hz=> ?_⟩
 ·obtain⟨r,hr⟩:=hG k hk
  exact hM.own (k,true,r) (by simp[hr]) rfl
 ·rw[h'.only.block z.1 (hh.has.lt hz) (fun hm=>by
   obtain⟨r,hr⟩:=hG _ hm
   exact n5 z.1 (laLz (hs.mem z hz)) z.1 (by rw[laAz];exact .inl (laLz (f:=(·.1)) hr)) rfl)]
  exact hh.has z hz
theorem St.dG{o':Oper}{c:Nat}{f:FuncId}{ags:Array Operand}{ts:Array TypeId}{args:Array Value}(hx:o.op= .call {callee:= .value (.func f),args:=ags,argTypes:=ts})(hx':o'.op= .alloc ty){A M B:List Ent}(hM:St w0 F w (A++(M++B)))(hg:o.guard=none)(hg':o'.guard=none)(hd: ∀ d,o.dst=some d→o'.dst≠some d)
  (hf:XS P f=true) (he:ags.map a.eval=args) (he': ∀ p,ags.map (a.put o'.dst p).eval=args) {z:Value} (hz:((P.info? ty).bind (·.zero))=some z) (hs:Sub Lr A) (hG: ∀ k∈G,∃ r,(k,true,r)∈M) {R:World→World→Value→List Ent→Prop}
  (hC: ∀ W,St w0 F W (A++(M++B))→Calls P f args W fun e w'=> ∃ v M',R W w' v M'∧e= .returned v∧Grow W (ze M) (ze M')∧St W G w' M')
  (h: ∀ W w1 w' b v M',w.heap.size≤W.heap.size→R W w1 v M'→St w0 F w' ((b,true,.cells z.cells.toList ty)::(A++(M' ++B)))→zg P ops K (Held w0 F Lr) l ((a.put o.dst v).put o'.dst (.pointer (some ⟨b,0,none⟩))) w'):zg P ops K (Held w0 F Lr) ((o,4)::(o',c)::l) a w:=by
 have pK: ∀ M',Swap (A++(M++B)) M M' (A++(M' ++B)):=fun M'=> .past .here
 refine Xx hg hg' ?_ ?_
 ·unfold Oper.wp
  rw[xk w hx hf he,Oper.upon_enter]
  refine(hC w hM).mono fun e w' ⟨v,M',hR,h1,gX,hN⟩=> ?_
  subst h1
  refine⟨Held.az hM hs hN hG, ?_⟩
  rw[ZQ _ hx' hz]
  exact⟨fun hh=>⟨hh.only.alloc _,hh.has.push _⟩,h _ _ _ _ v M' (Nat.le_refl _) hR ((hM.az (pK M') hN hG gX).push _ (by simp[Res.holds]))⟩
 ·unfold Oper.wp
  rw[ZQ w hx' hz]
  refine⟨fun hh=>⟨hh.only.alloc _,hh.has.push _⟩, ?_⟩
  have hp:=hM.push (r:= .cells z.cells.toList ty) (.cells z.cells ty) (by simp[Res.holds])
  rw[xk _ hx hf (he' _),Oper.upon_enter]
  refine(hC _ hp.forget).mono fun e w' ⟨v,M',hR,h1,gX,hN⟩=> ?_
  subst h1
  refine⟨Held.az hp.forget hs hN hG, ?_⟩
  rw[←Act.put_comm _ _ _ hd]
  exact h _ _ _ _ v M' (by simp) hR (hp.az (.skip (pK M')) hN hG gX)
end
section
variable {w w' w0 w1 w2:World}{X X1 X':bQ}{t t1 t':TabD}{zs fV zs':List NodV}{hs hs1 hs':List ae}{N M:Nat}{F:List Nat}{L:List Ent}{d d':FsD}
abbrev aV(X:bQ)(d:FsD)(zs:List NodV)(hs:List ae):List Ent:=bw X d.t.quota (d.t.last+1) zs hs
theorem dF.at_(h:dF N X d zs hs w)(hA:At (aV X d zs hs) w'):dF N X d zs hs w':=⟨⟨hA,h.is.sl,h.is.names,h.is.len,h.is.nodes,h.is.hok,h.is.hlen⟩,h.fM,h.len,h.inv⟩
theorem dF.only (h:dF N X d zs hs w)(ho:Only F w w')(hF: ∀ k∈ze (aV X d zs hs),k∉F):dF N X d zs hs w':=h.at_ (h.is.at_.only ho hF)
theorem dU.st(h:dU N X d zs hs d' X' zs' hs' w w'):St w (eO X hs) w' (aV X' d' zs' hs'):=⟨h.only,h.fs.is.at_.has,h.fs.is.at_.nd,fun y hy h1=>h.own _ (Zx.2 (rh hy h1))⟩
theorem tC{q nx:Int}: ∀ k∈eO X hs,k∈ze (bw X q nx zs hs):=fun k hk=>by
 obtain⟨r,hr⟩:=Zr (zs:=zs) (q:=q) (nx:=nx) k hk
 exact laLz (f:=(·.1)) hr
abbrev du(X:bQ)(d:FsD)(zs:List NodV)(hs:List ae):List Ent:=fw X hs.length::(rE X.x d.t.quota (d.t.last+1) zs.length::nodL X.x.s zs++aX X.h hs)
theorem Ye:zO (du X d zs hs):=fun y hy=>by
 rcases laBz.1 hy with rfl|hy
 ·rfl
 ·rcases laAz.1 hy with hy|hy
  ·rcases laBz.1 hy with rfl|hy
   ·rfl
   ·exact zo _ _ _ _ y hy
  ·exact zo _ _ _ _ y hy
theorem Al:((zs.flatMap NodV.ents).map zx++(nodL X.x.s zs).map zx++(fw X hs.length::rE X.x d.t.quota (d.t.last+1) zs.length::aX X.h hs)).Perm (aV X d zs hs):=by
 show List.Perm _ (fw X hs.length::(aX X.h hs++rE X.x d.t.quota (d.t.last+1) zs.length::(nodL X.x.s zs++zs.flatMap NodV.ents).map zx))
 rw[laMz]
 exact(zV (by intro _ x;simp only[lbKz,laXz,lbEz,lbLz,laIz,laJz];omega))
theorem tD:(du X d zs hs).Perm (nodL X.x.s zs++(fw X hs.length::rE X.x d.t.quota (d.t.last+1) zs.length::aX X.h hs)):=(zV (by intro _ x;simp only[lbKz,laXz,lbEz,lbLz,laIz,laJz];omega))
theorem dF.ents(h:dF N X d zs hs w):At (zs.flatMap NodV.ents) w:=h.is.tbl.raw.ents
theorem yj{q nx:Int}: ∀ k∈ze (zs.flatMap NodV.ents),k∈ze (bw X q nx zs hs):=fun k hk=>XI k (by
 unfold rL
 rw[show ze (rE X.x q nx zs.length::(nodL X.x.s zs++zs.flatMap NodV.ents).map zx)=X.x.g::ze ((nodL X.x.s zs++zs.flatMap NodV.ents).map zx) from rfl,Zp,zF]
 exact .tail _ (laCz _ hk))
theorem St.fP{L:List Ent}(h:dF N X d zs hs w1)(hM:St w0 F w (du X' d zs hs++L))(hE:At (zs.flatMap NodV.ents) w)(hd: ∀ k∈ze (zs.flatMap NodV.ents),k∉ze (du X' d zs hs++L)):St w0 F w (aV X' d zs hs++L):=by
 have h1:=hM.reads hE hd
 have h2:St w0 F w (nodL X'.x.s zs++((zs.flatMap NodV.ents).map zx++((fw X' hs.length::rE X'.x d.t.quota (d.t.last+1) zs.length::aX X'.h hs)++L))):=h1.perm (by
  refine List.Perm.trans (List.Perm.append_left _ (List.Perm.append_right _ tD)) ?_
  exact(zV (by intro _ x;simp only[lbKz,laXz,lbEz,lbLz,laIz,laJz];omega)))
 refine h2.jP.perm (List.Perm.trans ?_ (List.Perm.append_right _ Al))
 exact(zV (by intro _ x;simp only[lbKz,laXz,lbEz,lbLz,laIz,laJz];omega))
theorem xK{k:Nat}(hk:k∈ze (aV X' d zs hs)):k∈ze (du X' d zs hs)∨k∈ze (zs.flatMap NodV.ents):=by
 have h1:=((Al (X:=X') (d:=d) (zs:=zs) (hs:=hs)).map (·.1)).mem_iff.2 hk
 rw[laMz,laMz,laAz,laAz] at h1
 rcases h1 with (h1|h1)|h1
 ·exact .inr (by rw[←Zp];exact h1)
 ·refine .inl (((tD (X:=X') (d:=d) (zs:=zs) (hs:=hs)).map (·.1)).mem_iff.2 ?_)
  rw[laMz,laAz]
  exact .inl (by have h2:k∈ze ((nodL X'.x.s zs).map zx):=h1;rw[Zp] at h2;exact h2)
 ·refine .inl (((tD (X:=X') (d:=d) (zs:=zs) (hs:=hs)).map (·.1)).mem_iff.2 ?_)
  rw[laMz,laAz]
  exact .inr h1
theorem xu(h:dF N X d zs hs w0):Calls Tryz.prog 85 #[.pointer (some ⟨X.f,0,none⟩)] w0 fun e w'=> ∃ X',e= .returned (.pointer (some ⟨X'.f,0,none⟩))∧Hid (∀ W,At (aV X' d zs hs) W→dF N X' d zs hs W)∧St w0 [] w' (du X' d zs hs):=by
 refine(Ce h.is).mono ?_
 rintro e w' ⟨X',rfl,hk,hn,hS⟩
 exact⟨X',rfl,qh fun W hA=>⟨⟨hA,hn,h.is.names,h.is.len,h.is.nodes,hk,h.is.hlen⟩,h.fM,h.len,h.inv⟩,hS⟩
end
/-! ### the disk -/
def F6:OpD:=⟨0,⟨#[]⟩,⟨#[]⟩,0,0,0,⟨#[]⟩,0,0⟩
def bH:a_→List Value
 |(o,some p)=> .int .i64 o:: .bool false::p.cells
 |(o,none)=> .int .i64 o:: .bool true::F6.cells
theorem rN(z:a_):(bH z).length=11:=by obtain⟨o,_|p⟩:=z<;> rfl
theorem Am: ∀ l:List a_,(l.flatMap bH).length=l.length*11
 |[]=>rfl
 |z::r=>by rw[laOz,laNz,Am r,laPz,rN];omega
theorem F7{l:List a_}{k:Nat}{z:a_}(h:l[k]? =some z):((l.flatMap bH).drop (k*11)).take 11=bH z:=by
 induction l generalizing k with
 |nil=>simp at h
 |cons y r ih=>
  rw[laOz]
  cases k with
  |zero=>
   simp only[lbPz,Option.some.injEq] at h
   subst h
   rw[Nat.zero_mul,ldBz,lcXz (by rw[rN];omega),ldNz (by rw[rN];omega)]
  |succ k=>
   rw[lbFz] at h
   rw[show(k+1)*11=(bH y).length+k*11 by rw[rN];omega,List.drop_append,List.drop_of_length_le (by omega),Nat.add_sub_cancel_left,laJz]
   exact ih h
structure iG where
 d:Nat
 now:bQ
 base:bQ
 s:Option (Nat×Nat)
abbrev jQ(s:Option (Nat×Nat))(l:List a_):List Ent:=slL s (l.flatMap bH) 36 11
def ju(X:iG)(n:Nat):Ent:=(X.d,true,.cells [.pointer (some ⟨X.now.f,0,none⟩),.pointer (some ⟨X.base.f,0,none⟩),slV X.s n] 72)
def bT(X:iG)(D:ar)(zs:List NodV)(hs:List ae):List Ent:=ju X D.log.length::(jQ X.s D.log++aV X.now D.now zs hs)
def cS(X:iG)(D:ar)(hs:List ae):List Nat:=X.d::(ze (jQ X.s D.log)++eO X.now hs)
structure fh where
 zs:List NodV
 hs:List ae
 zb:List NodV
 hb:List ae
def f_(X:iG)(D:ar)(V:fh):List Nat:=ze (bT X D V.zs V.hs)++ze (aV X.base D.base V.zb V.hb)
structure gO (D:ar):Prop where
 now:Fs.ao D.now.t
 base:Fs.ao D.base.t
 sm: ∀ l∈D.log,∀ p,l.2=some p→p.Sm
structure cz (N:Nat) (X:iG) (D:ar) (V:fh) (w:World):Prop where
 at_:At (bT X D V.zs V.hs) w
 iR:SlOK X.s D.log.length (D.log.flatMap bH) 11
 now:dF N X.now D.now V.zs V.hs w
 base:dF N X.base D.base V.zb V.hb w
 inv:Ol.Inv N D
 law:gO D
 apart: ∀ k∈cS X D V.hs,k∉ze (aV X.base D.base V.zb V.hb)
section
variable {w w' w0 w1 w2:World}{X X':iG}{D D':ar}{V V':fh}{N M:Nat}{F:List Nat}{L:List Ent}
theorem Zb{zs:List NodV}{hs:List ae}:ze (bT X D zs hs)=X.d::(ze (jQ X.s D.log)++ze (aV X.now D.now zs hs)):=by
 unfold bT
 rw[show ze (ju X D.log.length::(jQ X.s D.log++aV X.now D.now zs hs))=X.d::ze (jQ X.s D.log++aV X.now D.now zs hs) from rfl,zF]
theorem yJ: ∀ k∈cS X D V.hs,k∈ze (bT X D V.zs V.hs):=fun k hk=>by
 rw[Zb]
 unfold cS at hk
 rcases laBz.1 hk with rfl|hk
 ·exact .head _
 ·rcases laAz.1 hk with hk|hk
  ·exact .tail _ (laEz _ hk)
  ·exact .tail _ (laCz _ (tC k hk))
theorem ZD{k:Nat}{hs:List ae}:k∈cS X D hs↔k=X.d∨k∈ze (jQ X.s D.log)∨k∈eO X.now hs:=by
 unfold cS
 simp
theorem F8{zs:List NodV}{hs:List ae}{y:Ent}(hy:y∈bT X D zs hs)(h1:y.2.1=true):y.1∈cS X D hs:=by
 unfold bT at hy
 rcases laBz.1 hy with rfl|hy
 ·exact ZD.2 (.inl rfl)
 ·rcases laAz.1 hy with hy|hy
  ·exact ZD.2 (.inr (.inl (laLz hy)))
  ·exact ZD.2 (.inr (.inr (Zx.2 (rh hy h1))))
theorem Ao{zs:List NodV}{hs:List ae}: ∀ k∈cS X D hs,∃ r,(k,true,r)∈bT X D zs hs:=fun k hk=>by
 unfold bT
 rcases ZD.1 hk with rfl|hk|hk
 ·exact⟨_,.head _⟩
 ·obtain⟨y,hy,rfl⟩:=laKz.1 hk
  have h1:=zo _ _ _ _ y hy
  exact⟨y.2.2,.tail _ (laEz _ (by rw[show(y.1,true,y.2.2)=y by rw[←h1]];exact hy))⟩
 ·obtain⟨r,hr⟩:=Zr (zs:=zs) (q:=D.now.t.quota) (nx:=D.now.t.last+1) k hk
  exact⟨r,.tail _ (laCz _ hr)⟩
theorem cz.st(h:cz N X D V w):St w (cS X D V.hs) w (bT X D V.zs V.hs):=⟨Only.refl _ w,h.at_.has,h.at_.nd,fun y hy h1=> .inl (F8 hy h1)⟩
theorem cz.more(h:cz N X D V w)(hM:N≤M):cz M X D V w:=⟨h.at_,h.iR,h.now.more hM,h.base.more hM,h.inv.more hM,h.law,h.apart⟩
theorem cz.only (h:cz N X D V w)(ho:Only F w w')(hF: ∀ k∈f_ X D V,k∉F):cz N X D V w':=by
 have h1: ∀ k∈ze (bT X D V.zs V.hs),k∉F:=fun k hk=>hF k (laEz _ hk)
 refine⟨h.at_.only ho h1,h.iR,h.now.only ho fun k hk=>h1 k ?_,h.base.only ho fun k hk=>hF k (laCz _ hk),h.inv,h.law,h.apart⟩
 rw[Zb]
 exact .tail _ (laCz _ hk)
theorem cz.below(h:cz N X D V w)(hb:Below w.heap.size w w'):cz N X D V w':=h.only (F:=[]) (Only.of_below hb) fun _ _=>nofun
theorem cz.lt(h:cz N X D V w): ∀ k∈f_ X D V,k<w.heap.size:=fun k hk=>(laAz.1 hk).elim (h.at_.lt k) (h.base.is.at_.lt k)
structure dH (N:Nat) (X:iG) (D:ar) (V:fh) (X':iG) (D':ar) (V':fh) (w w':World):Prop where
 d:X'.d=X.d
 is:cz N X' D' V' w'
 only:Only (cS X D V.hs) w w'
 own: ∀ k∈cS X' D' V'.hs,k∈cS X D V.hs∨w.heap.size≤k
 grow:Grow w (f_ X D V) (f_ X' D' V')
theorem St.pV{Y:iG}{E:ar}{U:fh}(hM:St w0 (cS X D V.hs) w (bT Y E U.zs U.hs))(hb:dF N Y.base E.base U.zb U.hb w)(hd:Y.d=X.d)(hk:SlOK Y.s E.log.length (E.log.flatMap bH) 11)
  (hn:At (aV Y.now E.now U.zs U.hs) w→dF N Y.now E.now U.zs U.hs w) (I:Ol.Inv N E) (L:gO E) (hap: ∀ k∈cS Y E U.hs,k∉ze (aV Y.base E.base U.zb U.hb)) (hg:Grow w0 (f_ X D V) (f_ Y E U)):dH N X D V Y E U w0 w where
 d:=hd
 is:=⟨hM.whole,hk,hn (hM.whole.sub (by unfold bT;exact(laFz _ _).cons _)),hb,I,L,hap⟩
 only:=hM.only
 own:=fun k hk=>by
  obtain⟨r,hr⟩:=Ao (zs:=U.zs) k hk
  exact hM.own (k,true,r) hr rfl
 grow:=hg
end
end
section
open Go.RowKit Go.Maps
section
variable {w w' w0 w1 w2:World}{X X':iG}{Z Z':bQ}{D D':ar}{V V':fh}{N M:Nat}{F:List Nat}{L:List Ent}{d:FsD}{zs:List NodV}{hs:List ae}
theorem Ap(h:dF N Z d zs hs w): ∀ k∈eO Z hs,k∉ze (zs.flatMap NodV.ents):=fun k hk hm=>by
 have hnd:=h.is.at_.nd
 rw[yg] at hnd
 unfold rL at hnd
 rw[show ze (rE Z.x d.t.quota (d.t.last+1) zs.length::(nodL Z.x.s zs++zs.flatMap NodV.ents).map zx)=Z.x.g::ze ((nodL Z.x.s zs++zs.flatMap NodV.ents).map zx) from rfl,Zp,zF] at hnd
 simp only[laTz,laSz,laAz,laBz,not_or] at hnd
 obtain⟨⟨-,-,-,h1⟩,-,⟨⟨-,h2⟩,-⟩,h3⟩:=hnd
 rcases Zx.1 hk with rfl|hk|rfl
 ·exact h1 hm
 ·exact(h3 k hk k (.inr (.inr hm))) rfl
 ·exact h2 hm
theorem At.fP{Z1:bQ}(h:dF N Z d zs hs w1)(hA:At (du Z1 d zs hs++aV Z d zs hs) w):At (aV Z1 d zs hs) w:=by
 have hn:=hA.nd
 rw[zF,laSz] at hn
 have h1:=(h.at_ (hA.sub (laFz _ _))).ents
 have hS:=(hA.sub (M:=du Z1 d zs hs) (lbAz _ _)).st
 have h2:=St.fP (L:=[]) (X':=Z1) h (by rw[laYz];exact hS) h1 (fun k hk hm=>by
  rw[laYz] at hm
  exact hn.2.2 k hm k (yj k hk) rfl)
 rw[laYz] at h2
 exact h2.whole
theorem St.iH{Y:iG}{E:ar}{U:fh}(h:cz M X D V w0)(hM:St w0 (cS X D V.hs) w (bT Y E U.zs U.hs))(hd:Y.d=X.d)(hk:SlOK Y.s E.log.length (E.log.flatMap bH) 11)
  (hn:At (aV Y.now E.now U.zs U.hs) w→dF N Y.now E.now U.zs U.hs w) (I:Ol.Inv N E) (L:gO E) (F9:M≤N) (hb:Y.base=X.base) (he:E.base=D.base) (hz:U.zb=V.zb) (hh:U.hb=V.hb) (hg:Grow w0 (f_ X D V) (ze (aV Y.now E.now U.zs U.hs))):dH N X D V Y E U w0 w:=by
 have hB:dF N X.base D.base V.zb V.hb w:=(h.base.more F9).only hM.only fun k hk hm=>h.apart k hm hk
 refine hM.pV (by rw[hb,he,hz,hh];exact hB) hd hk hn I L (fun k hk=> ?_) (fun k hk=> ?_)
 ·rw[hb,he,hz,hh]
  obtain⟨r,hr⟩:=Ao (zs:=U.zs) k hk
  rcases hM.own (k,true,r) hr rfl with h1|h1
  ·exact h.apart k h1
  ·intro hm
   have:=h.base.is.at_.lt k hm
   exact absurd h1 (by simp only;omega)
 ·unfold f_ at hk
  rcases laAz.1 hk with hk|hk
  ·rw[Zb] at hk
   rcases laBz.1 hk with rfl|hk
   ·exact .inl (laEz _ (by rw[Zb,hd];exact .head _))
   ·rcases laAz.1 hk with hk|hk
    ·obtain⟨y,hy,rfl⟩:=laKz.1 hk
     rcases hM.own y (by unfold bT;exact .tail _ (laEz _ hy)) (zo _ _ _ _ y hy) with h1|h1
     ·exact .inl (laEz _ (yJ _ h1))
     ·exact .inr h1
    ·exact hg k hk
  ·rw[hb,he,hz,hh] at hk
   exact .inl (laCz _ hk)
theorem Aq(h:cz N X D V w0):Calls Tryz.prog 88 #[.pointer (some ⟨X.d,0,none⟩)] w0 fun e w'=>e= .returned (.tuple #[])∧ ∃ X' V',dH N X D V X' (Ol.sync D) V' w0 w':=by
 have hM:=h.st
 obtain⟨xd,xn,xb,xs⟩:=X
 obtain⟨zs,hs,zb,hb⟩:=V
 obtain⟨va,vc,hv,-⟩:=zf h.iR
 unfold bT ju at hM
 simp only at hM hv
 rw[hv] at hM
 have HC:=qh (fun (W:World) (hA:At (aV xn D.now zs hs) W)=>xu (h.now.at_ hA))
 have HH:=qh h
 clear h hv
 go_enter Tryz.func88,Tryz.ntmps88
 (refine qw ?_;intros;rename_i hM)
 (refine qKx ?_;intro R hR)
 refine(HC.out _ (hM.part (Part.skip (Part.past Part.all)))).mono ?_
 rintro e w' ⟨X',rfl,HX,hN⟩
 replace hM:=(hM.madeM hN Ye).perm lcMz
 refine qho ?_;clear hR R hN HC
 (refine qq ?_)
 (refine qw ?_;intros;rename_i hM)
 (refine qf ?_)
 rename World=>w
 have h:=HH.out
 have hnd:=hM.nd
 have hE:St w0 (cS ⟨xd,xn,xb,xs⟩ D hs) w (bT ⟨xd,xn,X',none⟩ (Ol.sync D) zs hs):=hM.subM (List.Sublist.cons_cons _ (by
  show(aV xn D.now zs hs).Sublist _
  exact(laFz _ _).trans (laFz _ _)))
 have hA:At (du X' D.now zs hs++aV xn D.now zs hs) w:=hM.whole.sub ((List.Sublist.append_left (laFz _ _) _).cons _)
 have hC:=At.fP h.now hA
 have pW:=hA.nd
 rw[zF,laSz] at pW
 have pX:xd∉ze (du X' D.now zs hs)∧xd∉ze (aV xn D.now zs hs):=by
  have h2:(xd::(ze (du X' D.now zs hs)++(ze (jQ xs D.log)++ze (aV xn D.now zs hs)))).Nodup:=by
   rw[laDz,laMz,laMz] at hnd
   exact hnd
  have h3:=(laTz.1 h2).1
  exact⟨fun h=>h3 (laEz _ h),fun h=>h3 (laCz _ (laCz _ h))⟩
 refine⟨rfl,⟨xd,xn,X',none⟩,⟨zs,hs,zs,hs⟩,hE.pV (HX.out w hC) rfl ⟨rfl,rfl⟩ (fun hA=>h.now.at_ hA) (Ol.ik h.inv) ⟨h.law.now,h.law.now,nofun⟩ (fun k hk hm=> ?_) (fun k hk=> ?_)⟩
 ·rcases xK hm with h1|h1
  ·rcases ZD.1 hk with rfl|hk|hk
   ·exact pX.1 h1
   ·cases hk
   ·exact pW.2.2 k h1 k (tC k hk) rfl
  ·rcases ZD.1 hk with rfl|hk|hk
   ·exact pX.2 (yj k h1)
   ·cases hk
   ·exact Ap h.now k hk h1
 ·unfold f_ at hk
  have fQ: ∀ k∈ze (aV xn D.now zs hs),k∈f_ ⟨xd,xn,xb,xs⟩ D ⟨zs,hs,zb,hb⟩:=fun k hk=>laEz _ (by rw[Zb];exact .tail _ (laCz _ hk))
  rcases laAz.1 hk with hk|hk
  ·rw[Zb] at hk
   rcases laBz.1 hk with rfl|hk
   ·exact .inl (laEz _ (by rw[Zb];exact .head _))
   ·rcases laAz.1 hk with hk|hk
    ·cases hk
    ·exact .inl (fQ k hk)
  ·rcases xK hk with h1|h1
   ·obtain⟨y,hy,rfl⟩:=laKz.1 h1
    rcases hM.own y (.tail _ (laEz _ hy)) (Ye y hy) with h2|h2
    ·exact .inl (laEz _ (yJ (V:=⟨zs,hs,zb,hb⟩) _ h2))
    ·exact .inr h2
   ·exact .inl (fQ k (yj k h1))
/-! ### a new one -/
theorem F_{Z:bQ}{qt:Int}(h0:64≤qt)(h1:qt≤1099511627776)(hh:Z.h=none)(hz:zs.map (·.1)=(In.new qt).nodes)(hsl:yV Z.x.s zs)(hnm: ∀ z∈zs,SlOK z.2 z.1.names.length (entC z.1.names) 2)(hl:zs.length≤1000000)(hA:At (aV Z (Fs.new qt) zs []) w):dF 1 Z (Fs.new qt) zs [] w:=
 ⟨⟨hA,hsl,hnm,hl,hz,by rw[hh];exact⟨rfl,rfl⟩,Nat.zero_le _⟩,Hs.iB,Nat.zero_le _,Ol.fG h0 h1⟩
theorem Ar{Z:bQ}{qt:Int}(hh:Z.h=none)(he:zs.flatMap NodV.ents=[]):(nodL Z.x.s zs).map zx++[fw Z 0,rE Z.x qt 2 zs.length]=(nodL Z.x.s zs).map zx++[fw Z 0,rE Z.x qt 2 zs.length]∧((nodL Z.x.s zs).map zx++[fw Z 0,rE Z.x qt 2 zs.length]).Perm (aV Z (Fs.new qt) zs []):=by
 refine⟨rfl, ?_⟩
 have e:aV Z (Fs.new qt) zs []=fw Z 0::rE Z.x qt 2 zs.length::(nodL Z.x.s zs).map zx:=by
  show fw Z 0::(aX Z.h []++rE Z.x qt (1+1) zs.length::(nodL Z.x.s zs++zs.flatMap NodV.ents).map zx)=_
  rw[he,hh,laYz]
  rfl
 rw[e]
 exact(zV (by intro _ x;simp only[lbKz,laXz,lbEz,lbLz,laIz,laJz];omega))
theorem Ga(qt:Int)(h0:64≤qt)(h1:qt≤1099511627776)(w0:World):Calls Tryz.prog 36 #[.int .i64 qt] w0 fun e w'=> ∃ X V,e= .returned (.tuple #[.pointer (some ⟨X.d,0,none⟩),.int .i64 0])∧cz 1 X (Ol.new qt) V w'∧Below w0.heap.size w0 w'∧ ∀ k∈f_ X (Ol.new qt) V,w0.heap.size≤k:=by
 have hM:=St.start w0 []
 have HN:=qh (fun W=>Cf qt h0 h1 W)
 have HQ:=qh (And.intro h0 h1)
 clear h0 h1
 go_enter Tryz.func36,Tryz.ntmps36
 (repeat(first|(refine qW ?_;intros;rename_i hM)|(refine qMk ?_;clear hM;intro w bk hM)))
 (refine qK3 (fun R hR=> ?_))
 refine(HN.out _).mono ?_
 rintro e w' ⟨Z,zs,rfl,hh,hz,he,hst,hsl,hnm,hl⟩
 have nL:St w0 [] w' (nodL Z.x.s zs++[fw Z 0,rE Z.x qt 2 zs.length]):=by
  unfold gf at hst
  rw[he] at hst
  exact hst.perm (by rw[lbBz,laYz];exact(zV (by intro _ x;simp only[lbKz,laXz,lbEz,lbLz,laIz,laJz];omega)))
 have dI:=nL.jP.perm (Ar hh he).2
 have HZ:=qh (fun (W:World) (hA:At (aV Z (Fs.new qt) zs []) W)=>F_ HQ.out.1 HQ.out.2 hh hz hsl hnm hl hA)
 have HF:=qh (fun (k:Nat) (hk:k∈ze (aV Z (Fs.new qt) zs []))=>(show _≤k from by
  have h1:=((Ar (qt:=qt) hh he).2.map (·.1)).mem_iff.2 hk
  have e:((nodL Z.x.s zs).map zx++[fw Z 0,rE Z.x qt 2 zs.length]).map (·.1)=ze (nodL Z.x.s zs++[fw Z 0,rE Z.x qt 2 zs.length]):=by
   unfold ze
   rw[laMz,laMz,lbZz]
   rfl
  rw[e] at h1
  obtain⟨y,hy,rfl⟩:=laKz.1 h1
  exact(nL.own y hy (by
   rcases laAz.1 hy with hy|hy
   ·exact zo _ _ _ _ y hy
   ·simp only[laBz,lbRz,or_false] at hy
    rcases hy with rfl|rfl<;> rfl)).resolve_left nofun))
 have hlt:=HF.out
 have bJ:St w0 [] w' (aV Z (Fs.new qt) zs []):=by
  refine⟨hM.only.trans dI.only,dI.holds,dI.nd,fun y hy h1=> .inr ?_⟩
  have:=hM.only.size
  have:=hlt y.1 (laLz hy)
  omega
 have rB:=qh (fun (k:Nat) (hk:k∈ze (aV Z (Fs.new qt) zs []))=>(show w0.heap.size≤k by have:=hM.only.size;have:=hlt k hk;omega))
 refine qho ?_;clear hR R hst nL dI hh hz he hsl hnm hl hM hlt HF
 have hM:=bJ
 clear bJ
 have HC:=qh (fun (W:World) (hA:At (aV Z (Fs.new qt) zs []) W)=>xu (HZ.out W hA))
 (refine qq ?_)
 (repeat(first|(refine qW ?_;intros;rename_i hM)|(refine qMk ?_;clear hM;intro w bk hM)))
 (refine qKx ?_;intro R hR)
 refine(HC.out _ hM.whole).mono ?_
 rintro e w' ⟨X',rfl,HX,hN⟩
 replace hM:=(hM.madeM hN Ye)
 refine qho ?_;clear hR R hN HC
 (refine qq ?_)
 (repeat(first|(refine qW ?_;intros;rename_i hM)|(refine qMk ?_;clear hM;intro w bk hM)))
 (refine qf ?_)
 have hnd:=hM.nd
 have hA:At (du X' (Fs.new qt) zs []++aV Z (Fs.new qt) zs []) w:=hM.forget.whole
 have fQ:=HZ.out w (hA.sub (laFz _ _))
 have hC:=At.fP fQ hA
 have pW:=hA.nd
 rw[zF,laSz] at pW
 have pX:bk∉ze (du X' (Fs.new qt) zs [])∧bk∉ze (aV Z (Fs.new qt) zs []):=by
  have h2:(bk::(ze (du X' (Fs.new qt) zs [])++ze (aV Z (Fs.new qt) zs []))).Nodup:=by
   rw[laDz,laMz] at hnd
   exact hnd
  have h3:=(laTz.1 h2).1
  exact⟨fun h=>h3 (laEz _ h),fun h=>h3 (laCz _ h)⟩
 have hbk:=(hM.own _ (.head _) rfl).resolve_left nofun
 have lk: ∀ k∈ze (du X' (Fs.new qt) zs []),w0.heap.size≤k:=fun k hk=>by
  obtain⟨y,hy,rfl⟩:=laKz.1 hk
  exact(hM.own y (.tail _ (laEz _ hy)) (Ye y hy)).resolve_left nofun
 have hE:At (bT ⟨bk,Z,X',none⟩ (Ol.new qt) zs []) w:=hM.whole.sub (List.Sublist.cons_cons _ (laFz _ _))
 refine⟨⟨bk,Z,X',none⟩,⟨zs,[],zs,[]⟩,rfl,⟨hE,⟨rfl,rfl⟩,fQ,HX.out w hC,Ol.inv_new HQ.out.1 HQ.out.2,⟨Fs.gz qt,Fs.gz qt,nofun⟩,fun k hk hm=> ?_⟩,hM.only.to_below (Nat.le_refl _) nofun,fun k hk=> ?_⟩
 ·rcases xK hm with h1|h1
  ·rcases ZD.1 hk with rfl|hk|hk
   ·exact pX.1 h1
   ·cases hk
   ·exact pW.2.2 k h1 k (tC k hk) rfl
  ·rcases ZD.1 hk with rfl|hk|hk
   ·exact pX.2 (yj k h1)
   ·cases hk
   ·exact Ap fQ k hk h1
 ·unfold f_ at hk
  rcases laAz.1 hk with hk|hk
  ·rw[Zb] at hk
   rcases laBz.1 hk with rfl|hk
   ·exact hbk
   ·rcases laAz.1 hk with hk|hk
    ·cases hk
    ·exact rB.out k hk
  ·rcases xK hk with h1|h1
   ·exact lk k h1
   ·exact rB.out k (yj k h1)
theorem Gb(qt:Int)(h:qt<64∨1099511627776<qt)(w0:World):An 36 #[.int .i64 qt] w0 (.tuple #[.pointer none,.int .i64 1]):=by
 have hM:=St.start w0 []
 have HN:=qh (fun W=>Cg qt h W)
 clear h
 go_enter Tryz.func36,Tryz.ntmps36
 (refine qw ?_;intros;rename_i hM)
 (refine qCB (HN.out _) hM ?_;clear hM;intro w' hM)
 exact qwf
end
end
theorem tE{p q:Prop}(k:q)(h:Hd q→p:=by
 intro q1k
 first|refine qD (id:=4) hM (Sub.take (Sub.take (Sub.take Sub.nil))) [3,5] [(0,0),(1,0),(2,0),(3,1),(4,0),(5,1),(6,4),(7,4),(8,3)] ?_|refine qD (id:=7) hM (Sub.all _) [4] [(0,0),(1,0),(2,0),(3,0),(4,1),(5,0),(6,2),(7,2),(8,2),(9,3),(10,3),(11,3),(12,3)] ?_|fail
 exact q1k.out):p:=h ⟨k⟩
section
open Go.RowKit Go.Maps
section
variable {w w' w0 w1 w2:World}{X X':iG}{Z Z':bQ}{D D':ar}{V V':fh}{N M:Nat}{F F' G:List Nat}{L:List Ent}{d:FsD}{zs:List NodV}{hs:List ae}
theorem gO.exit(I:Ol.Inv N D)(h:gO D)(o:Int):gO (Ol.exit D o):=by
 have hl:=Ol.iF (o:=o) I ⟨h.now,h.base⟩
 refine⟨hl.now,hl.base,fun l hm p hp=> ?_⟩
 unfold Ol.exit at hm
 split at hm
 ·rcases laAz.1 hm with hm|hm
  ·exact h.sm l hm p hp
  ·rcases laGz.1 hm with rfl
   cases hp
 ·exact h.sm l hm p hp
theorem gO.do_(I:Ol.Inv N D)(h:gO D)(o:Int){p:OpD}(hp:p.Sm):gO (Ol.do_ D o p).2:=by
 have hl:=Ol.kg (o:=o) (p:=p) I ⟨h.now,h.base⟩
 refine⟨hl.now,hl.base,fun l hm q hq=> ?_⟩
 unfold Ol.do_ at hm
 split at hm
 ·cases hm
 ·unfold Ol.aO at hm
  simp only at hm
  split at hm
  ·rcases laAz.1 hm with hm|hm
   ·exact h.sm l hm q hq
   ·rcases laGz.1 hm with rfl
    cases hq
    exact hp
  ·exact h.sm l hm q hq
theorem St.jv{a b c:Ent}{A B:List Ent}(hM:St w0 F w (a::b::c::(A++B))):St w0 F w ((a::b::c::A)++(B++[])):=by rw[laYz];exact hM
theorem St.again(hM:St w0 F w L)(hF: ∀ y∈L,y.2.1=true→y.1∈F'):St w F' w L:=⟨Only.refl _ w,hM.holds,hM.nd,fun y hy h1=> .inl (hF y hy h1)⟩
theorem As(l:List a_)(z:a_):l.flatMap bH++bH z=(l++[z]).flatMap bH:=by rw[laWz,lbUz]
theorem pY(h:cz N X D V w):D.log.length≤N:=by obtain⟨K,-,h2⟩:=h.inv.base;omega
theorem cz.on{W:World}(h:cz N X D V w0)(hA:At (bT X D V.zs V.hs) W)(ho:Only (cS X D V.hs) w0 W):cz N X D V W:=
 ⟨hA,h.iR,h.now.at_ (hA.sub (by unfold bT;exact(laFz _ _).cons _)),h.base.only ho fun k hk hm=>h.apart k hm hk,h.inv,h.law,h.apart⟩
theorem dH.wrap{W:World}(h:cz M X D V w0)(ho:Only (cS X D V.hs) w0 W)(hto:dH N X D V X' D' V' W w1)(hS:Only F' w1 w')(hF: ∀ k∈F',w0.heap.size≤k∧k<W.heap.size):dH N X D V X' D' V' w0 w':=by
 have hsz:=ho.size
 refine⟨hto.d,hto.is.only hS (fun k hk hm=> ?_),(ho.trans hto.only).then hS (fun k hk=> .inr (hF k hk).1),(fun k hk=>(hto.own k hk).imp id (Nat.le_trans hsz)),(fun k hk=>(hto.grow k hk).imp id (Nat.le_trans hsz))⟩
 have h1:=hF k hm
 rcases hto.grow k hk with h3|h3
 ·have:=h.lt k h3
  omega
 ·omega
theorem St.aside{A:List Ent}(hM:St w0 (cS X D V.hs) w (A++bT X D V.zs V.hs))(hA:zO A): ∀ k∈ze A,w0.heap.size≤k∧k<w.heap.size:=fun k hk=>by
 have hnd:=hM.nd
 rw[laMz,laSz] at hnd
 obtain⟨y,hy,rfl⟩:=laKz.1 hk
 refine⟨(hM.own y (laEz _ hy) (hA y hy)).resolve_left (fun h1=>hnd.2.2 _ hk _ (yJ (V:=V) _ h1) rfl),hM.lt (laEz _ hy)⟩
theorem St.nM{A:List Ent}(hM:St w0 (cS X D V.hs) w (A++bT X D V.zs V.hs))(ho:Only (cS X D V.hs) w w'):St w' (ze A) w' A:=by
 have hnd:=hM.nd
 rw[laMz,laSz] at hnd
 exact((hM.whole.sub (lbAz _ _)).only ho (fun k hk h1=>hnd.2.2 _ hk _ (yJ (V:=V) _ h1) rfl)).st
theorem Gc(h:cz N X D V w0)(hN:N≤800000){o:Int}(ho:Fits o):Calls Tryz.prog 38 #[.pointer (some ⟨X.d,0,none⟩),.int .i64 o] w0 fun e w'=>e= .returned (.tuple #[])∧ ∃ X' V',dH (N+3) X D V X' (Ol.exit D o) V' w0 w':=by
 have hM:=h.st
 have iI:=pY h
 obtain⟨xd,xn,xb,xs⟩:=X
 obtain⟨zs,hs,zb,hb⟩:=V
 obtain⟨va,vc,hv,-⟩:=zf h.iR
 unfold bT ju at hM
 simp only at hM hv
 rw[hv] at hM
 have rO:=qh (fun (W:World) (hA:At (aV xn D.now zs hs) W)=>wW (h.now.at_ hA).is)
 have HEX:=qh (fun (W:World) (hA:At (aV xn D.now zs hs) W)=>XE (h.now.at_ hA) (by omega) ho)
 have e:=Hs.ez h.now.inv.inv h.now.fM
 rw[e] at rO
 clear e
 have HH:=qh h
 have HV:=qh hv
 have HK:=qh h.iR
 have oH:(Fs.af D.now).length≤900000:=by
  have:=h.inv.now.inv.len
  unfold Fs.af
  rw[lbMz]
  omega
 obtain⟨os,tF⟩: ∃ os,Fs.af D.now=os:=⟨_,rfl⟩
 rw[tF] at rO oH
 have HS:=qh tF
 have HO:=qh ho
 clear h hv tF ho
 go_enter Tryz.func38,Tryz.ntmps38
 (refine qw ?_;intros;rename_i hM)
 (refine qKx ?_;intro R hR)
 refine(rO.out _ (hM.part (Part.skip (Part.past Part.all)))).mono ?_
 rintro e w' ⟨s,rfl,hok,hst⟩
 replace hM:=hM.madeM hst (zo _ _ _ _)
 refine qho ?_;clear hR R hst rO
 obtain⟨ua,uc,hu,j6⟩:=zf hok
 have HOK:=qh hok
 rw[hu]
 clear hok hu
 (refine qq ?_)
 (refine qw ?_;intros;rename_i hM)
 go_loopw [5] (fun i wr=> ∃ k:Nat,k≤os.length∧i= .int .i64 k∧Hid (∀ (j:Nat) (v:Int),j<k→os[j]? =some v→v≠o)∧St w0 (cS ⟨xd,xn,xb,xs⟩ D hs) wr (slL s (os.map (Value.int .i64)) 3 1++((xd,true,.cells [.pointer (some ⟨xn.f,0,none⟩),.pointer (some ⟨xb.f,0,none⟩),.slice va D.log.length vc] 72)::(jQ xs D.log++aV xn D.now zs hs)))) (fun i _=>os.length - (intOf i).toNat)
 case atStart=>exact⟨0,by omega,rfl,qh (fun j v hj=>by omega),hM⟩
 case round=>
  clear hM
  obtain⟨k,hk,rfl,HB,hM⟩:=hrel
  by_cases hlt:k<os.length
  ·obtain⟨v,nN⟩:=zK hlt
   have k1:(k:Int)<(os.length:Int):=by omega
   rcases s with _|⟨g2,cap2⟩
   ·exact absurd HOK.out.2 (by omega)
   obtain⟨rfl,rfl⟩:=j6 g2 cap2 rfl
   have hx':(os.map (Value.int .i64))[k]? =some (.int .i64 v):=by rw[lbCz,nN];rfl
   simp only[slL,laIz,laJz] at hM
   by_cases jm:v=o
   ·subst jm
    have tG:=qh (laQz nN)
    clear nN hlt
    (refine qw ?_;intros;rename_i hM)
    (refine qKx ?_;intro R hR)
    refine(HEX.out _ (hM.part (Part.skip (Part.skip (Part.past Part.all))))).mono ?_
    rintro e w' ⟨rfl,X2,aF,hs2,hto⟩
    have ln:=qh hM.only.size
    replace hM:=hM.az (Swap.skip (Swap.skip (Swap.past Swap.all))) hto.st Zr hto.grow
    refine qho ?_;clear hR R HEX
    have cL:=qh hto
    clear hto
    (refine qq ?_)
    (refine qw ?_;intros;rename_i hM)
    rw[←HV.out]
    refine St.append (s:=xs) (n:=D.log.length) (xs:=D.log.flatMap bH) rfl hM rfl rfl rfl rfl rfl (by kernel_rfl) qsf HK.out rfl (hM.news qm) rfl (by rw[zj];omega) (by omega) (fun h=>by cases h) ?_
    clear hM;intro w s2 hM hk2 _
    have e1:D.log.flatMap bH++[.int .i64 v,.bool true,.int .i64 0,.string ⟨#[]⟩,.string ⟨#[]⟩,.int .i64 0,.int .i64 0,.int .i64 0,.string ⟨#[]⟩,.int .i64 0,.int .i64 0]=(D.log++[((v,none):a_)]).flatMap bH:=As D.log (v,none)
    have e2:D.log.length+1=(D.log++[((v,none):a_)]).length:=by simp
    simp only[Res.known] at hM hk2
    rw[e1] at hM hk2
    rw[e2] at hk2 ⊢
    have HK2:=qh hk2
    obtain⟨ub,ud,hu2,-⟩:=zf hk2
    have nO:=qh hu2
    rw[hu2]
    clear e1 e2 hk2 hu2
    (refine qq ?_)
    (refine qw ?_;intros;rename_i hM)
    (refine qf ?_)
    have h:=HH.out
    have tH:Ol.exit D v=⟨Fs.exit D.now v,D.base,D.log++[(v,none)]⟩:=if_pos (by rw[HS.out];exact tG.out)
    have hI:=Ol.bP h.inv HO.out
    have hL:=h.law.exit h.inv v
    rw[tH] at hI hL ⊢
    rename World=>w
    have hE:St w0 (cS ⟨xd,xn,xb,xs⟩ D hs) w (bT ⟨xd,X2,xb,s2⟩ ⟨Fs.exit D.now v,D.base,D.log++[(v,none)]⟩ aF hs2):=by
     unfold bT ju
     simp only
     rw[nO.out,cL.out.f]
     exact hM.forget.forget
    refine⟨rfl,⟨xd,X2,xb,s2⟩,⟨aF,hs2,zb,hb⟩,hE.iH h rfl HK2.out (fun hA=>(cL.out.fs.at_ hA).more (by omega)) hI hL (by omega) rfl rfl rfl rfl (fun k hk=> ?_)⟩
    rcases cL.out.grow k hk with h1|h1
    ·exact .inl (laEz _ (by rw[Zb];exact .tail _ (laCz _ h1)))
    ·exact .inr (Nat.le_trans ln.out h1)
   ·have q1:(v==o)=false:=qne.2 jm
    have HB2:=qh (show ∀ (j:Nat) (u:Int),j<k+1→os[j]? =some u→u≠o from fun j u hj hu=>by
     by_cases hjk:j<k
     ·exact HB.out j u hjk hu
     ·obtain rfl:j=k:=by omega
      rw[nN] at hu
      cases hu
      exact jm)
    clear nN hlt jm
    (refine qw ?_;intros;rename_i hM)
    (try simp only[Exit.then])
    (refine⟨?_,qio⟩;repeat(first|exact⟨⟨k+1,by omega,rfl,HB2,hM⟩,rfl⟩|apply Exists.intro))
  ·have k0:¬((k:Int)<(os.length:Int)):=by omega
   have HNM:=qh (show o∉os from fun hm=>by
    obtain⟨j,hj,e⟩:=List.getElem_of_mem hm
    exact HB.out j o (by omega) (by rw[laRz hj,e]) rfl)
   clear hlt hk
   (refine qw ?_;intros;rename_i hM)
   (refine qf ?_)
   have h:=HH.out
   have tH:Ol.exit D o=D:=if_neg (by rw[HS.out];exact HNM.out)
   rw[tH]
   have hE:St w0 (cS ⟨xd,xn,xb,xs⟩ D hs) wr (bT ⟨xd,xn,xb,xs⟩ D zs hs):=by
    unfold bT ju
    simp only
    rw[HV.out]
    exact hM.subM (laFz _ _)
   refine⟨rfl,⟨xd,xn,xb,xs⟩,⟨zs,hs,zb,hb⟩,hE.iH h rfl HK.out (fun hA=>(h.now.at_ hA).more (by omega)) (h.inv.more (by omega)) h.law (by omega) rfl rfl rfl rfl (fun k hk=> ?_)⟩
   exact .inl (laEz _ (by rw[Zb];exact .tail _ (laCz _ hk)))
def pZ(N:Nat)(X:iG)(D:ar)(V:fh)(w:World)(r:ResD×ar)(e:Ending)(w':World):Prop:=
 ∃ s X' V',e= .returned (.agg #[.int .i64 r.1.err,.int .i64 r.1.n,.string r.1.data,slV s r.1.names.length])∧TxOK s r.1.names∧At (txL s r.1.names) w'∧(∀ k∈ze (txL s r.1.names),w.heap.size≤k∧k∉f_ X' r.2 V')∧dH N X D V X' r.2 V' w w'
theorem Gd(h:cz N X D V w0)(o:Int)(p:OpD)(hk:p.kind=14):Calls Tryz.prog 39 #[.pointer (some ⟨X.d,0,none⟩),.int .i64 o,.agg p.cells.toArray] w0 (pZ N X D V w0 (Ol.do_ D o p)):=by
 have hM:=h.st
 have e1:Ol.do_ D o p=(Fs.errR 0,Ol.sync D):=if_pos hk
 rw[e1]
 obtain⟨pk,pp,pd,ph,pa,pn,px,py,pb⟩:=p
 simp only[OpD.cells] at hk ⊢
 subst hk
 have HC:=qh (fun (W:World) (hA:At (bT X D V.zs V.hs) W) (ho:Only (cS X D V.hs) w0 W)=>Aq (h.on hA ho))
 have HH:=qh h
 clear h e1
 go_enter Tryz.func39,Tryz.ntmps39
 (repeat(first|(refine qW ?_;clear hM;intros;rename_i hM)|(first|((refine qMk ?_);clear hM;intro w bk hM)|((refine qAA hM ?_);clear hM;intro w bk gU hM))))
 (refine qK3 (fun R hR=> ?_))
 refine(HC.out _ (hM.part (Part.skip (Part.skip Part.all))) hM.only).mono ?_
 rintro e w' ⟨rfl,X',V',hto⟩
 have p5:=qh hM.only
 have Ge:=qh (St.aside (A:=[_,_]) hM (fun y hy=>by
  simp only[laBz,lbRz,or_false] at hy
  rcases hy with rfl|rfl<;> rfl))
 have bJ:=St.nM (A:=[_,_]) hM hto.only
 refine qho ?_;clear hR R hM HC
 have cL:=qh hto
 have hM:=bJ
 clear bJ hto
 (refine qq ?_)
 (repeat(first|(refine qW ?_;clear hM;intros;rename_i hM)|(first|((refine qMk ?_);clear hM;intro w bk hM)|((refine qAA hM ?_);clear hM;intro w bk gU hM))))
 (refine qf ?_)
 exact⟨none,X',V',rfl,⟨rfl,rfl⟩,⟨nofun,lcHz⟩,nofun,cL.out.wrap HH.out p5.out hM.only Ge.out⟩
theorem St.mc{s:Option (Nat×Nat)}{ns:List ByteArray}{Q:List Ent}(hM:St w0 G w Q)(hA:At (txL s ns) w)(hf: ∀ k∈ze (txL s ns),w0.heap.size≤k∧k∉ze Q):St w0 G w (txL s ns++Q):=by
 refine⟨hM.only,fun y hy=>(laAz.1 hy).elim (hA.has y) (hM.holds y), ?_,fun y hy h1=>(laAz.1 hy).elim (fun h2=> .inr (hf _ (laLz h2)).1) (fun h2=>hM.own y h2 h1)⟩
 show(ze (txL s ns++Q)).Nodup
 rw[zF,laSz]
 exact⟨hA.nd,hM.nd,fun x hx y hy e=>(hf x hx).2 (e▸hy)⟩
theorem Xv(h:cz N X D V w0)(hN:N≤800000){o:Int}(ho:Fits o)(p:OpD)(hp:p.Sm)(cx:p.Ok)(hk:p.kind=6∨p.kind=9∨p.kind=13){q:Bool}(he:((Fs.do_ D.now o p).1.err==0)=q):Calls Tryz.prog 39 #[.pointer (some ⟨X.d,0,none⟩),.int .i64 o,.agg p.cells.toArray] w0 (pZ (N+3) X D V w0 (Ol.do_ D o p)):=by
 have hM:=h.st
 have iI:=pY h
 have hI:=Ol.inv_do h.inv (by omega) ho cx
 have hL:=h.law.do_ h.inv o hp
 have e1:Ol.do_ D o p=((Fs.do_ D.now o p).1,Ol.aO D o p):=if_neg (by omega)
 rw[e1] at hI hL ⊢
 simp only at hI hL
 have e2:Ol.aO D o p=⟨(Fs.do_ D.now o p).2,D.base,D.log⟩:=by show ar.mk _ _ _=_;rw[if_neg (fun h=>by obtain⟨-,g1,g2,g3⟩:=h;omega)]
 rw[e2] at hI hL ⊢
 obtain⟨xd,xn,xb,xs⟩:=X
 obtain⟨zs,hs,zb,hb⟩:=V
 obtain⟨va,vc,hv,-⟩:=zf h.iR
 unfold bT ju at hM
 simp only at hM hv
 rw[hv] at hM
 have HC:=qh (fun (W:World) (hA:At (aV xn D.now zs hs) W)=>Xg (h.now.at_ hA) (by omega) ho p hp)
 have HH:=qh h
 have HV:=qh hv
 have HK:=qh h.iR
 have HI:=qh hI
 have HL:=qh hL
 obtain⟨G,hG⟩: ∃ G,Fs.do_ D.now o p=G:=⟨_,rfl⟩
 rw[hG] at HC HI HL he ⊢
 obtain⟨⟨er,n,da,ns⟩,d'⟩:=G
 obtain⟨p',hp'⟩: ∃ p',p=p':=⟨_,rfl⟩
 have tu:=qh hp'
 obtain⟨pk,pp,pd,ph,pa,pn,px,py,pb⟩:=p
 simp only[OpD.cells] at HC he hk ⊢
 have q0:(er==0)=q:=he
 clear he
 clear h hv hI hL e1 e2 hp cx hG hp'
 rcases hk with hk|hk|hk<;> cases q
 all_goals as_aux_lemma=>
  subst hk
  go_enter Tryz.func39,Tryz.ntmps39
  (repeat(first|(refine qW0 ?_;clear hM;intros;rename_i hM)|(first|((refine qMk ?_);clear hM;intro w bk hM)|((refine qAA hM ?_);clear hM;intro w bk gU hM))|((refine tE ?_);clear hM;intro w hM Kr hKr)))
  have bJ:=hM.jv
  have ln:=qh hM.only.size
  refine St.dG (M:=aV xn D.now zs hs) (G:=eO xn hs) (R:=fun W w1 v M'=> ∃ s X2 aF hs2,v= .agg #[.int .i64 er,.int .i64 n,.string da,slV s ns.length]∧TxOK s ns∧dU (N+3) xn D.now zs hs d' X2 aF hs2 W w1∧(∀ k∈ze (txL s ns),W.heap.size≤k)∧M'=txL s ns++aV X2 d' aF hs2) rfl rfl bJ rfl rfl (fun d h=>by cases h;decide) (by kernel_rfl) (by simp only[Act.put,qSa,qSz,qSs,lbOz,laDz,lbBz,Act.eval,zR,qGz,qGs]<;> rfl) (fun p=>(by simp only[Act.put,qSa,qSz,qSs,lbOz,laDz,lbBz,Act.eval,zR,qGz,qGs]<;> rfl)) rfl (by first|exact Sub.all _|exact Sub.nil|repeat(first|exact Sub.nil|apply Sub.take)) Zr (fun W hW=> ?_) ?_
  ·refine(HC.out W (hW.part (.past .here))).mono ?_
   rintro e w' ⟨s,X2,aF,hs2,rfl,hs,hA,hf,hto⟩
   refine⟨_,_,⟨s,X2,aF,hs2,rfl,hs,hto,(fun k hk=>(hf k hk).1),rfl⟩,rfl,fun k hk=> ?_,hto.st.mc hA hf⟩
   rw[zF] at hk
   rcases laAz.1 hk with hk|hk
   ·exact .inr (hf k hk).1
   ·exact hto.grow k hk
  clear hM bJ
  rintro W w1 w bk v M' mH ⟨s,X2,aF,hs2,rfl,hs,hto,hfr,rfl⟩ hM
  obtain⟨sa,sc,hsv,-⟩:=zf hs
  rw[hsv]
  have HS:=qh hs
  have HSV:=qh hsv
  have cL:=qh hto
  have HFR:=qh hfr
  have mI:=qh (Nat.le_trans ln.out mH)
  clear hs hsv hto mH hfr
  rw[laYz] at hM
  simp only[laIz] at hM
  generalize bk=ab at*
  (refine qq ?_)
  (repeat(first|(refine qW ?_;clear hM;intros;rename_i hM)|(first|((refine qMk ?_);clear hM;intro w bk hM)|((refine qAA hM ?_);clear hM;intro w bk gU hM))))
  (refine qf ?_)
  have h:=HH.out
  rename World=>w
  have hS:St w0 (cS ⟨xd,xn,xb,xs⟩ D hs) w (txL s ns++bT ⟨xd,X2,xb,xs⟩ ⟨d',D.base,D.log⟩ aF hs2):=by
   unfold bT ju
   simp only
   rw[HV.out,cL.out.f]
   exact hM.forget.forget.forget.perm (zV (by intro _ x;simp only[lbKz,laXz,lbEz,lbLz,laIz,laJz];omega))
  have hnd:=hS.nd
  rw[laMz,laSz] at hnd
  rename World=>w
  have hE:St w0 (cS ⟨xd,xn,xb,xs⟩ D hs) w (bT ⟨xd,X2,xb,xs⟩ ⟨d',D.base,D.log⟩ aF hs2):=hS.subM (laFz _ _)
  refine⟨s,⟨xd,X2,xb,xs⟩,⟨aF,hs2,zb,hb⟩,by rw[HSV.out];rfl,HS.out,hS.whole.sub (lbAz _ _),fun k hk=> ?_,hE.iH h rfl HK.out (fun hA=>cL.out.fs.at_ hA) HI.out HL.out (by omega) rfl rfl rfl rfl (fun k hk=> ?_)⟩
  ·obtain⟨y,hy,rfl⟩:=laKz.1 hk
   have h1:w0.heap.size≤y.1:=(hS.own y (laEz _ hy) (zL _ _ y hy)).resolve_left fun h2=>by
    have h3:=yJ (V:=⟨zs,hs,zb,hb⟩) _ h2
    have h4:=h.lt y.1 (laEz _ h3)
    exact absurd (HFR.out _ hk) (by have:=mI.out;omega)
   refine⟨h1,fun h2=> ?_⟩
   rcases laAz.1 h2 with h2|h2
   ·exact hnd.2.2 _ hk _ h2 rfl
   ·have:=h.lt y.1 (laCz _ h2)
    omega
  ·rcases cL.out.grow k hk with h1|h1
   ·exact .inl (laEz _ (by rw[Zb];exact .tail _ (laCz _ h1)))
   ·exact .inr (Nat.le_trans mI.out h1)
theorem Gf(h:cz N X D V w0)(hN:N≤800000){o:Int}(ho:Fits o)(p:OpD)(hp:p.Sm)(cx:p.Ok)(lp:p.kind≠14)(h6:p.kind≠6)(h9:p.kind≠9)(cQ:p.kind≠13)(he:(Fs.do_ D.now o p).1.err≠0):Calls Tryz.prog 39 #[.pointer (some ⟨X.d,0,none⟩),.int .i64 o,.agg p.cells.toArray] w0 (pZ (N+3) X D V w0 (Ol.do_ D o p)):=by
 have hM:=h.st
 have iI:=pY h
 have hI:=Ol.inv_do h.inv (by omega) ho cx
 have hL:=h.law.do_ h.inv o hp
 have e1:Ol.do_ D o p=((Fs.do_ D.now o p).1,Ol.aO D o p):=if_neg (by omega)
 rw[e1] at hI hL ⊢
 simp only at hI hL
 have e2:Ol.aO D o p=⟨(Fs.do_ D.now o p).2,D.base,D.log⟩:=by show ar.mk _ _ _=_;rw[if_neg (fun h=>he h.1)]
 rw[e2] at hI hL ⊢
 obtain⟨xd,xn,xb,xs⟩:=X
 obtain⟨zs,hs,zb,hb⟩:=V
 obtain⟨va,vc,hv,-⟩:=zf h.iR
 unfold bT ju at hM
 simp only at hM hv
 rw[hv] at hM
 have HC:=qh (fun (W:World) (hA:At (aV xn D.now zs hs) W)=>Xg (h.now.at_ hA) (by omega) ho p hp)
 have HH:=qh h
 have HV:=qh hv
 have HK:=qh h.iR
 have HI:=qh hI
 have HL:=qh hL
 obtain⟨G,hG⟩: ∃ G,Fs.do_ D.now o p=G:=⟨_,rfl⟩
 rw[hG] at HC HI HL he ⊢
 obtain⟨⟨er,n,da,ns⟩,d'⟩:=G
 obtain⟨p',hp'⟩: ∃ p',p=p':=⟨_,rfl⟩
 have tu:=qh hp'
 obtain⟨pk,pp,pd,ph,pa,pn,px,py,pb⟩:=p
 simp only[OpD.cells] at HC he lp h6 h9 cQ ⊢
 have b6:=qne.2 h6
 have b9:=qne.2 h9
 have b13:=qne.2 cQ
 have Gg:=qne.2 lp
 clear h6 h9 cQ lp
 have q0:(er==0)=false:=qne.2 he
 clear he
 clear h hv hI hL e1 e2 hp cx hG hp'
 go_enter Tryz.func39,Tryz.ntmps39
 (repeat(first|(refine qW0 ?_;clear hM;intros;rename_i hM)|(first|((refine qMk ?_);clear hM;intro w bk hM)|((refine qAA hM ?_);clear hM;intro w bk gU hM))|((refine tE ?_);clear hM;intro w hM Kr hKr)))
 have bJ:=hM.jv
 have ln:=qh hM.only.size
 refine St.dG (M:=aV xn D.now zs hs) (G:=eO xn hs) (R:=fun W w1 v M'=> ∃ s X2 aF hs2,v= .agg #[.int .i64 er,.int .i64 n,.string da,slV s ns.length]∧TxOK s ns∧dU (N+3) xn D.now zs hs d' X2 aF hs2 W w1∧(∀ k∈ze (txL s ns),W.heap.size≤k)∧M'=txL s ns++aV X2 d' aF hs2) rfl rfl bJ rfl rfl (fun d h=>by cases h;decide) (by kernel_rfl) (by simp only[Act.put,qSa,qSz,qSs,lbOz,laDz,lbBz,Act.eval,zR,qGz,qGs]<;> rfl) (fun p=>(by simp only[Act.put,qSa,qSz,qSs,lbOz,laDz,lbBz,Act.eval,zR,qGz,qGs]<;> rfl)) rfl (by first|exact Sub.all _|exact Sub.nil|repeat(first|exact Sub.nil|apply Sub.take)) Zr (fun W hW=> ?_) ?_
 ·refine(HC.out W (hW.part (.past .here))).mono ?_
  rintro e w' ⟨s,X2,aF,hs2,rfl,hs,hA,hf,hto⟩
  refine⟨_,_,⟨s,X2,aF,hs2,rfl,hs,hto,(fun k hk=>(hf k hk).1),rfl⟩,rfl,fun k hk=> ?_,hto.st.mc hA hf⟩
  rw[zF] at hk
  rcases laAz.1 hk with hk|hk
  ·exact .inr (hf k hk).1
  ·exact hto.grow k hk
 clear hM bJ
 rintro W w1 w bk v M' mH ⟨s,X2,aF,hs2,rfl,hs,hto,hfr,rfl⟩ hM
 obtain⟨sa,sc,hsv,-⟩:=zf hs
 rw[hsv]
 have HS:=qh hs
 have HSV:=qh hsv
 have cL:=qh hto
 have HFR:=qh hfr
 have mI:=qh (Nat.le_trans ln.out mH)
 clear hs hsv hto mH hfr
 rw[laYz] at hM
 simp only[laIz] at hM
 generalize bk=ab at*
 (refine qq ?_)
 (repeat(first|(refine qW ?_;clear hM;intros;rename_i hM)|(first|((refine qMk ?_);clear hM;intro w bk hM)|((refine qAA hM ?_);clear hM;intro w bk gU hM))))
 (refine qf ?_)
 have h:=HH.out
 rename World=>w
 have hS:St w0 (cS ⟨xd,xn,xb,xs⟩ D hs) w (txL s ns++bT ⟨xd,X2,xb,xs⟩ ⟨d',D.base,D.log⟩ aF hs2):=by
  unfold bT ju
  simp only
  rw[HV.out,cL.out.f]
  exact hM.forget.forget.forget.perm (zV (by intro _ x;simp only[lbKz,laXz,lbEz,lbLz,laIz,laJz];omega))
 have hnd:=hS.nd
 rw[laMz,laSz] at hnd
 rename World=>w
 have hE:St w0 (cS ⟨xd,xn,xb,xs⟩ D hs) w (bT ⟨xd,X2,xb,xs⟩ ⟨d',D.base,D.log⟩ aF hs2):=hS.subM (laFz _ _)
 refine⟨s,⟨xd,X2,xb,xs⟩,⟨aF,hs2,zb,hb⟩,by rw[HSV.out];rfl,HS.out,hS.whole.sub (lbAz _ _),fun k hk=> ?_,hE.iH h rfl HK.out (fun hA=>cL.out.fs.at_ hA) HI.out HL.out (by omega) rfl rfl rfl rfl (fun k hk=> ?_)⟩
 ·obtain⟨y,hy,rfl⟩:=laKz.1 hk
  have h1:w0.heap.size≤y.1:=(hS.own y (laEz _ hy) (zL _ _ y hy)).resolve_left fun h2=>by
   have h3:=yJ (V:=⟨zs,hs,zb,hb⟩) _ h2
   have h4:=h.lt y.1 (laEz _ h3)
   exact absurd (HFR.out _ hk) (by have:=mI.out;omega)
  refine⟨h1,fun h2=> ?_⟩
  rcases laAz.1 h2 with h2|h2
  ·exact hnd.2.2 _ hk _ h2 rfl
  ·have:=h.lt y.1 (laCz _ h2)
   omega
 ·rcases cL.out.grow k hk with h1|h1
  ·exact .inl (laEz _ (by rw[Zb];exact .tail _ (laCz _ h1)))
  ·exact .inr (Nat.le_trans mI.out h1)
theorem Gh(h:cz N X D V w0)(hN:N≤800000){o:Int}(ho:Fits o)(p:OpD)(hp:p.Sm)(cx:p.Ok)(lp:p.kind≠14)(h6:p.kind≠6)(h9:p.kind≠9)(cQ:p.kind≠13)(he:(Fs.do_ D.now o p).1.err=0):Calls Tryz.prog 39 #[.pointer (some ⟨X.d,0,none⟩),.int .i64 o,.agg p.cells.toArray] w0 (pZ (N+3) X D V w0 (Ol.do_ D o p)):=by
 have hM:=h.st
 have iI:=pY h
 have hI:=Ol.inv_do h.inv (by omega) ho cx
 have hL:=h.law.do_ h.inv o hp
 have e1:Ol.do_ D o p=((Fs.do_ D.now o p).1,Ol.aO D o p):=if_neg (by omega)
 rw[e1] at hI hL ⊢
 simp only at hI hL
 have e2:Ol.aO D o p=⟨(Fs.do_ D.now o p).2,D.base,D.log++[(o,some p)]⟩:=by show ar.mk _ _ _=_;rw[if_pos ⟨he,h6,h9,cQ⟩]
 rw[e2] at hI hL ⊢
 obtain⟨xd,xn,xb,xs⟩:=X
 obtain⟨zs,hs,zb,hb⟩:=V
 obtain⟨va,vc,hv,-⟩:=zf h.iR
 unfold bT ju at hM
 simp only at hM hv
 rw[hv] at hM
 have HC:=qh (fun (W:World) (hA:At (aV xn D.now zs hs) W)=>Xg (h.now.at_ hA) (by omega) ho p hp)
 have HH:=qh h
 have HV:=qh hv
 have HK:=qh h.iR
 have HI:=qh hI
 have HL:=qh hL
 obtain⟨G,hG⟩: ∃ G,Fs.do_ D.now o p=G:=⟨_,rfl⟩
 rw[hG] at HC HI HL he ⊢
 obtain⟨⟨er,n,da,ns⟩,d'⟩:=G
 obtain⟨p',hp'⟩: ∃ p',p=p':=⟨_,rfl⟩
 have tu:=qh hp'
 obtain⟨pk,pp,pd,ph,pa,pn,px,py,pb⟩:=p
 simp only[OpD.cells] at HC he lp h6 h9 cQ ⊢
 have b6:=qne.2 h6
 have b9:=qne.2 h9
 have b13:=qne.2 cQ
 have Gg:=qne.2 lp
 clear h6 h9 cQ lp
 have q0:(er==0)=true:=beq_iff_eq.2 he
 clear he
 clear h hv hI hL e1 e2 hp cx hG hp'
 go_enter Tryz.func39,Tryz.ntmps39
 (repeat(first|(refine qW0 ?_;clear hM;intros;rename_i hM)|(first|((refine qMk ?_);clear hM;intro w bk hM)|((refine qAA hM ?_);clear hM;intro w bk gU hM))|((refine tE ?_);clear hM;intro w hM Kr hKr)))
 have bJ:=hM.jv
 have ln:=qh hM.only.size
 refine St.dG (M:=aV xn D.now zs hs) (G:=eO xn hs) (R:=fun W w1 v M'=> ∃ s X2 aF hs2,v= .agg #[.int .i64 er,.int .i64 n,.string da,slV s ns.length]∧TxOK s ns∧dU (N+3) xn D.now zs hs d' X2 aF hs2 W w1∧(∀ k∈ze (txL s ns),W.heap.size≤k)∧M'=txL s ns++aV X2 d' aF hs2) rfl rfl bJ rfl rfl (fun d h=>by cases h;decide) (by kernel_rfl) (by simp only[Act.put,qSa,qSz,qSs,lbOz,laDz,lbBz,Act.eval,zR,qGz,qGs]<;> rfl) (fun p=>(by simp only[Act.put,qSa,qSz,qSs,lbOz,laDz,lbBz,Act.eval,zR,qGz,qGs]<;> rfl)) rfl (by first|exact Sub.all _|exact Sub.nil|repeat(first|exact Sub.nil|apply Sub.take)) Zr (fun W hW=> ?_) ?_
 ·refine(HC.out W (hW.part (.past .here))).mono ?_
  rintro e w' ⟨s,X2,aF,hs2,rfl,hs,hA,hf,hto⟩
  refine⟨_,_,⟨s,X2,aF,hs2,rfl,hs,hto,(fun k hk=>(hf k hk).1),rfl⟩,rfl,fun k hk=> ?_,hto.st.mc hA hf⟩
  rw[zF] at hk
  rcases laAz.1 hk with hk|hk
  ·exact .inr (hf k hk).1
  ·exact hto.grow k hk
 clear hM bJ
 rintro W w1 w bk v M' mH ⟨s,X2,aF,hs2,rfl,hs,hto,hfr,rfl⟩ hM
 obtain⟨sa,sc,hsv,-⟩:=zf hs
 rw[hsv]
 have HS:=qh hs
 have HSV:=qh hsv
 have cL:=qh hto
 have HFR:=qh hfr
 have mI:=qh (Nat.le_trans ln.out mH)
 clear hs hsv hto mH hfr
 rw[laYz] at hM
 simp only[laIz] at hM
 generalize bk=ab at*
 (refine qq ?_)
 (repeat(first|(refine qW ?_;clear hM;intros;rename_i hM)|(first|((refine qMk ?_);clear hM;intro w bk hM)|((refine qAA hM ?_);clear hM;intro w bk gU hM))))
 rw[←HV.out]
 refine St.append (s:=xs) (n:=D.log.length) (xs:=D.log.flatMap bH) rfl hM rfl rfl rfl rfl rfl (by kernel_rfl) qsf HK.out rfl (hM.news qm) rfl (by rw[zj];omega) (by omega) (fun h=>by first|(cases h;done)|exact .inl rfl) ?_
 clear hM;intro w s2 hM hk2 _
 have e1:D.log.flatMap bH++[.int .i64 o,.bool false,.int .i64 pk,.string pp,.string pd,.int .i64 ph,.int .i64 pa,.int .i64 pn,.string px,.int .i64 py,.int .i64 pb]=(D.log++[((o,some ⟨pk,pp,pd,ph,pa,pn,px,py,pb⟩):a_)]).flatMap bH:=As D.log (o,some ⟨pk,pp,pd,ph,pa,pn,px,py,pb⟩)
 have e2:D.log.length+1=(D.log++[((o,some ⟨pk,pp,pd,ph,pa,pn,px,py,pb⟩):a_)]).length:=by simp
 simp only[Res.known] at hM hk2
 rw[e1] at hM hk2
 rw[e2] at hk2 ⊢
 have HK2:=qh hk2
 obtain⟨ub,ud,hu2,-⟩:=zf hk2
 have nO:=qh hu2
 rw[hu2]
 clear e1 e2 hk2 hu2
 (refine qq ?_)
 (repeat(first|(refine qW ?_;clear hM;intros;rename_i hM)|(first|((refine qMk ?_);clear hM;intro w bk hM)|((refine qAA hM ?_);clear hM;intro w bk gU hM))))
 (refine qf ?_)
 have h:=HH.out
 rename World=>w
 have hS:St w0 (cS ⟨xd,xn,xb,xs⟩ D hs) w (txL s ns++bT ⟨xd,X2,xb,s2⟩ ⟨d',D.base,D.log++[((o,some ⟨pk,pp,pd,ph,pa,pn,px,py,pb⟩):a_)]⟩ aF hs2):=by
  unfold bT ju jQ
  simp only
  rw[nO.out,cL.out.f]
  exact hM.forget.forget.forget.forget.perm (zV (by intro _ x;simp only[lbKz,laXz,lbEz,lbLz,laIz,laJz];omega))
 have hnd:=hS.nd
 rw[laMz,laSz] at hnd
 rename World=>w
 have hE:St w0 (cS ⟨xd,xn,xb,xs⟩ D hs) w (bT ⟨xd,X2,xb,s2⟩ ⟨d',D.base,D.log++[((o,some ⟨pk,pp,pd,ph,pa,pn,px,py,pb⟩):a_)]⟩ aF hs2):=hS.subM (laFz _ _)
 refine⟨s,⟨xd,X2,xb,s2⟩,⟨aF,hs2,zb,hb⟩,by rw[HSV.out];rfl,HS.out,hS.whole.sub (lbAz _ _),fun k hk=> ?_,hE.iH h rfl HK2.out (fun hA=>cL.out.fs.at_ hA) HI.out HL.out (by omega) rfl rfl rfl rfl (fun k hk=> ?_)⟩
 ·obtain⟨y,hy,rfl⟩:=laKz.1 hk
  have h1:w0.heap.size≤y.1:=(hS.own y (laEz _ hy) (zL _ _ y hy)).resolve_left fun h2=>by
   have h3:=yJ (V:=⟨zs,hs,zb,hb⟩) _ h2
   have h4:=h.lt y.1 (laEz _ h3)
   exact absurd (HFR.out _ hk) (by have:=mI.out;omega)
  refine⟨h1,fun h2=> ?_⟩
  rcases laAz.1 h2 with h2|h2
  ·exact hnd.2.2 _ hk _ h2 rfl
  ·have:=h.lt y.1 (laCz _ h2)
   omega
 ·rcases cL.out.grow k hk with h1|h1
  ·exact .inl (laEz _ (by rw[Zb];exact .tail _ (laCz _ h1)))
  ·exact .inr (Nat.le_trans mI.out h1)
theorem Gi(h:cz N X D V w0)(hN:N≤800000){o:Int}(ho:Fits o)(p:OpD)(hp:p.Sm)(cx:p.Ok):Calls Tryz.prog 39 #[.pointer (some ⟨X.d,0,none⟩),.int .i64 o,.agg p.cells.toArray] w0 (pZ (N+3) X D V w0 (Ol.do_ D o p)):=by
 by_cases lp:p.kind=14
 ·refine(Gd h o p lp).mono ?_
  rintro e w' ⟨s,X',V',he,hs,hA,hf,hto⟩
  exact⟨s,X',V',he,hs,hA,hf,hto.d,hto.is.more (by omega),hto.only,hto.own,hto.grow⟩
 by_cases he:(Fs.do_ D.now o p).1.err=0
 ·by_cases h6:p.kind=6
  ·exact Xv h hN ho p hp cx (.inl h6) (beq_iff_eq.2 he)
  by_cases h9:p.kind=9
  ·exact Xv h hN ho p hp cx (.inr (.inl h9)) (beq_iff_eq.2 he)
  by_cases cQ:p.kind=13
  ·exact Xv h hN ho p hp cx (.inr (.inr cQ)) (beq_iff_eq.2 he)
  exact Gh h hN ho p hp cx lp h6 h9 cQ he
 ·by_cases h6:p.kind=6
  ·exact Xv h hN ho p hp cx (.inl h6) (qne.2 he)
  by_cases h9:p.kind=9
  ·exact Xv h hN ho p hp cx (.inr (.inl h9)) (qne.2 he)
  by_cases cQ:p.kind=13
  ·exact Xv h hN ho p hp cx (.inr (.inr cQ)) (qne.2 he)
  exact Gf h hN ho p hp cx lp h6 h9 cQ he
end
end
section
open Go.RowKit Go.Maps Go.ChangeMaps
section
variable {P:Program}{k:TypeId}{w:World}{b:Nat}{l:List (Lit×Value)}
theorem Gj{t e:TypeId}(h:zA P k w b l)(ht:P.underlying t=some (.map k e))(ty:TypeId): ∃ w',(Builtin.clear_ #[t] ty #[.map (some b)]).run P w= .ok (.tuple #[]) w'∧zA P k w' b []∧Only [b] w w':=by
 obtain⟨es,clock,hb,F,hs,hD⟩:=h
 refine⟨setBlock w b (.map #[] clock), ?_, ?_, ?_⟩
 ·unfold Builtin.clear_
  simp[Sem.run_bind,run_underlying ht,getObj,setObj,Sem.run,hb,setBlock]
 ·have hlt:b<w.heap.size:=(Array.getElem?_eq_some_iff.1 hb).1
  refine⟨#[],clock, ?_,⟨by simp,MapKept.stamped_empty clock,by simp⟩,Nat.le_refl _,rfl⟩
  show(w.heap.setIfInBounds b _)[b]? =_
  simp[hlt]
 ·refine⟨rfl,rfl,rfl, ?_,fun j hj hn=> ?_⟩
  ·show w.heap.size≤(w.heap.setIfInBounds b _).size
   simp
  ·show(w.heap.setIfInBounds b _)[j]? =_
   have hne:b≠j:=fun e=>hn (by simp[e])
   simp[Array.getElem?_setIfInBounds,hne]
end
section
variable {P:Program}{K:Act→World→Prop}{a:Act}{w w0:World}{ops:Array Oper}{l:List (Oper×Nat)}{c:Nat}{o:Oper}{F:List Nat}{L L' Lr:List Ent}{b:Nat}{ty kt et:TypeId}{x:Operand}{m:List (Lit×Value)}
theorem St.lq(hx:o.op= .call {callee:= .builtin .clear,args:= #[x],argTypes:= #[ty]})(hM:St w0 F w L)(hc:(c==2||c==3)=true)(hw:Region.wanted o (yielded ops a.tmps)=true)(hev:a.eval x= .map (some b))(hu:Upd L (b,true,mapR P kt m) (b,true,mapR P kt []) L')(ht:P.underlying ty=some (.map kt et))
  (hS:c=2→Rest L (b,true,mapR P kt m) Lr) (h: ∀ w',St w0 F w' L'→zg P ops K (Held w0 F Lr) l (a.put o.dst (.tuple #[])) w'):zg P ops K (Held w0 F Lr) ((o,c)::l) a w:=by
 obtain⟨w',hrun,hat,hO⟩:=Gj (ZU (hM.holds _ hu.mem)) ht o.type
 have hown: ∀ x∈[b],x∈F∨w0.heap.size≤x:=fun x hx=>by
  have e:x=b:=by simpa using hx
  rw[e];exact hM.own _ hu.mem rfl
 have hr:(execOp a.eval o).run P w= .ok (.value (.tuple #[])) w':=by
  unfold execOp
  simp only[hx,resolve,invoke,builtin,Sem.run_bind,Sem.run_pure,Result.andThen_ok,lbOz,laDz,lbBz,hev,hrun]
 exact zM hc hw hr (.inl rfl) (fun h2 hh=>⟨hh.only.then hO hown,hh.has.turn hO ((hS h2).apart hM.nd)⟩) (h _ (hM.turn hu hO (Yx hat)))
end
section
variable {P:Program}{K:Act→World→Prop}{a:Act}{w w0:World}{ops:Array Oper}{l:List (Oper×Nat)}{c:Nat}{o:Oper}{F:List Nat}{L L' Lr:List Ent}{b:Nat}{ty kt et:TypeId}{x y:Operand}{m:List (Lit×Value)}{ow:Bool}{S:World→Prop}
theorem Au(w:World)(hx:o.op= .lookup ty x y false)(hev:a.eval x= .map none){i:Int}(hy:a.eval y= .int .i64 i)(ht:P.underlying ty=some (.map kt et))(hk:P.underlying kt=some (.int .i64)){zv:Value}(hz: ∀ w,(zeroValue et).run P w= .ok zv w):(execOp a.eval o).run P w= .ok (.value zv) w:=by
 have h1:(Instr.lookup ty (.map none) (.int .i64 i) false).run P w= .ok zv w:=by
  have Gk:(Instr.checkKey true 10000 kt (.int .i64 i)).run P w= .ok () w:=by
   rw[show(10000:Nat)=9999+1 from rfl,Instr.checkKey]
   simp[Sem.run_bind,Sem.run_pure,run_underlying hk]
  have Gl:(Instr.findKey kt (.int .i64 i) []).run P w= .ok none w:=by
   unfold Instr.findKey
   simp[Sem.run_bind,Sem.run_pure,run_underlying hk,Instr.findNow]
  unfold Instr.lookup
  simp[Sem.run_bind,Sem.run_pure,run_underlying ht,Gk,Gl,hz]
 unfold execOp
 simp only[hx,hev,hy,Sem.run_bind,h1,Result.andThen_ok,Sem.run_pure]
theorem St.bI(hx:o.op= .lookup ty x y false)(hc:(c==2||c==3)=true)(hw:Region.wanted o (yielded ops a.tmps)=true)(hev:a.eval x= .map none){i:Int}(hy:a.eval y= .int .i64 i)(ht:P.underlying ty=some (.map kt et))(hk:P.underlying kt=some (.int .i64)){zv:Value}(hz: ∀ w,(zeroValue et).run P w= .ok zv w)
  (h:zg P ops K S l (a.put o.dst zv) w):zg P ops K S ((o,c)::l) a w:=
 zB hc hw (Au w hx hev hy ht hk hz) h
theorem St.bl(hx:o.op= .lookup ty x y false)(hw:Region.wanted o (yielded ops a.tmps)=true)(hev:a.eval x= .map none){i:Int}(hy:a.eval y= .int .i64 i)(ht:P.underlying ty=some (.map kt et))(hk:P.underlying kt=some (.int .i64)){zv:Value}(hz: ∀ w,(zeroValue et).run P w= .ok zv w)
  (h:zg P ops K S l (a.put o.dst zv) w):zg P ops K S ((o,1)::l) a w:=
 yh hw (fun w _=>Au w hx hev hy ht hk hz) h
theorem Av(hx:o.op= .call {callee:= .builtin .len,args:= #[x],argTypes:= #[ty]})(hev:a.eval x= .map (some b))(hr:(mapR P kt m).holds w.heap[b]?)(ht:P.underlying ty=some (.map kt et)):(execOp a.eval o).run P w= .ok (.value (.int .i64 m.length)) w:=by
 unfold execOp
 simp only[hx,resolve,invoke,builtin,Sem.run_bind,Sem.run_pure,Result.andThen_ok,lbOz,laDz,lbBz,hev,zA.len (ZU hr) ht]
theorem St.lr(hx:o.op= .call {callee:= .builtin .len,args:= #[x],argTypes:= #[ty]})(hM:St w0 F w L)(hc:(c==2||c==3)=true)(hw:Region.wanted o (yielded ops a.tmps)=true)(hev:a.eval x= .map (some b))(hm:(b,ow,mapR P kt m)∈L)(ht:P.underlying ty=some (.map kt et))(h:zg P ops K S l (a.put o.dst (.int .i64 m.length)) w):zg P ops K S ((o,c)::l) a w:=
 zB hc hw (Av hx hev (hM.holds _ hm) ht) h
theorem St.jR(hx:o.op= .call {callee:= .builtin .len,args:= #[x],argTypes:= #[ty]})(hw:Region.wanted o (yielded ops a.tmps)=true)(hev:a.eval x= .map (some b))(hm:(b,ow,mapR P kt m)∈Lr)(ht:P.underlying ty=some (.map kt et))(h:zg P ops K (Held w0 F Lr) l (a.put o.dst (.int .i64 m.length)) w):zg P ops K (Held w0 F Lr) ((o,1)::l) a w:=
 yh hw (fun w hS=>Av hx hev (hS.has _ hm) ht) h
theorem Gm(w:World)(hx:o.op= .call {callee:= .builtin .clear,args:= #[x],argTypes:= #[ty]})(hev:a.eval x= .map none)(ht:P.underlying ty=some (.map kt et)):(execOp a.eval o).run P w= .ok (.value (.tuple #[])) w:=by
 unfold execOp
 simp[hx,resolve,invoke,builtin,Sem.run_bind,Sem.run_pure,hev,Builtin.clear_,run_underlying ht]
theorem St.ki(hx:o.op= .call {callee:= .builtin .clear,args:= #[x],argTypes:= #[ty]})(hc:(c==2||c==3)=true)(hw:Region.wanted o (yielded ops a.tmps)=true)(hev:a.eval x= .map none)(ht:P.underlying ty=some (.map kt et))(h:zg P ops K S l (a.put o.dst (.tuple #[])) w):zg P ops K S ((o,c)::l) a w:=
 zB hc hw (Gm w hx hev ht) h
end
end
section
open Go.RowKit Go.Maps
structure aT where
 aa:List (Int×Int)
 last:Int
namespace Pc
def birth(l:List (Int×Int))(p:Int):Int:=
 match l.find? fun x=>x.1==p with
 |some x=>x.2
 |none=>0
def ins(x:Int×Int):List (Int×Int)→List (Int×Int)
 |[]=>[x]
 |y::r=>if x.1<y.1 then x::y::r else y::ins x r
def del(l:List (Int×Int))(p:Int):List (Int×Int):=l.filter fun x=> !(x.1==p)
def put(l:List (Int×Int))(p b:Int):List (Int×Int):=ins (p,b) (del l p)
def cZ(t:aT)(p:Int):Int:=if p<1∨2147483648<p then 1 else if birth t.aa p≠0 then 4 else if 8≤t.aa.length then 5 else 0
def spawn(t:aT)(p:Int):(Int×Int)×aT:=if cZ t p=0 then((t.last+1,0),⟨put t.aa p (t.last+1),t.last+1⟩) else((0,cZ t p),t)
def bd(t:aT)(p:Int):Int:=if birth t.aa p=0 then 3 else 0
def kill(t:aT)(p:Int):Int×aT:=if birth t.aa p=0 then(3,t) else(0,⟨del t.aa p,t.last⟩)
def bU(t:aT):aT:=⟨[],t.last⟩
def alive(t:aT)(p b:Int):Bool:=decide (birth t.aa p≠0)&&decide (birth t.aa p=b)
def fR(t:aT):List Int:=t.aa.map Prod.fst
structure Fit (t:aT):Prop where
 aa: ∀ x∈t.aa,1≤x.2∧x.2≤t.last
 last:0≤t.last
 few:t.aa.length≤8
theorem jS:Fit ⟨[],0⟩:=⟨nofun,Int.le_refl 0,by simp⟩
section
variable {t:aT}{l:List (Int×Int)}{p b:Int}
theorem mem_ins{x y:Int×Int}: ∀ {l},y∈ins x l↔y=x∨y∈l
 |[]=>by simp[ins]
 |z::r=>by
  unfold ins
  split
  ·simp
  ·simp only[laBz,mem_ins (l:=r)]
   constructor<;> (intro h;rcases h with h|h|h<;> simp[h])
theorem XC(x:Int×Int): ∀ l,(ins x l).length=l.length+1
 |[]=>rfl
 |z::r=>by
  unfold ins
  split
  ·simp
  ·simp[XC x r]
theorem xD(l:List (Int×Int))(p b:Int):(put l p b).length≤l.length+1:=by
 unfold put
 rw[XC]
 have:(del l p).length≤l.length:=lbYz _ _
 omega
theorem Gn(h:birth l p≠0):(p,birth l p)∈l:=by
 unfold birth at h ⊢
 cases hf:l.find? fun x=>x.1==p with
 |none=>rw[hf] at h;exact absurd rfl h
 |some x=>
  have h1:=lcOz hf
  have e:x.1=p:=by simpa using h1
  have h2:=laUz hf
  rw[←e]
  exact h2
theorem iJ(h:Fit t)(p:Int):0≤birth t.aa p∧birth t.aa p≤t.last:=by
 by_cases h0:birth t.aa p=0
 ·rw[h0];exact⟨Int.le_refl 0,h.last⟩
 ·have:=h.aa _ (Gn h0)
  simp only at this
  omega
theorem gF(h:Fit t)(p:Int):Fit (spawn t p).2:=by
 unfold spawn
 split
 ·rename_i he
  have hl:t.aa.length<8:=by
   unfold cZ at he
   split at he
   ·cases he
   split at he
   ·cases he
   split at he
   ·cases he
   ·omega
  refine⟨fun x hx=> ?_,by have:=h.last;show 0≤t.last+1;omega, ?_⟩
  ·show 1≤x.2∧x.2≤t.last+1
   rcases mem_ins.1 hx with rfl|hx
   ·have:=h.last
    show 1≤t.last+1∧t.last+1≤t.last+1
    omega
   ·have:=h.aa x (lbHz.1 hx).1
    omega
  ·have:=xD t.aa p (t.last+1)
   show(put t.aa p (t.last+1)).length≤8
   omega
 ·exact h
theorem iK(h:Fit t)(p:Int):Fit (kill t p).2:=by
 unfold kill
 split
 ·exact h
 ·exact⟨fun x hx=>h.aa x (lbHz.1 hx).1,h.last,Nat.le_trans (lbYz _ _) h.few⟩
theorem eW(h:Fit t):Fit (bU t):=⟨nofun,h.last,by simp[bU]⟩
theorem jw(t:aT)(p:Int):t.last≤(spawn t p).2.last∧(spawn t p).2.last≤t.last+1:=by
 unfold spawn
 split
 ·show t.last≤t.last+1∧t.last+1≤t.last+1
  omega
 ·show t.last≤t.last∧t.last≤t.last+1
  omega
theorem gG(t:aT)(p:Int):(kill t p).2.last=t.last:=by
 unfold kill
 split<;> rfl
end
/-! ### in memory -/
end Pc
def bg(l:List (Int×Int)):List (Lit×Value):=l.map fun x=>(.int .i64 x.1,.int .i64 x.2)
theorem Zf(l:List (Int×Int))(p:Int):yb (bg l) (.int .i64 p) (.int .i64 0)= .int .i64 (Pc.birth l p):=by
 unfold yb bg Pc.birth
 rw[ldFz]
 rw[show(fun x:Lit×Value=>x.1.sameKey (.int .i64 p))∘(fun x:Int×Int=>(Lit.int .i64 x.1,Value.int .i64 x.2))=fun x=>x.1==p from by
  funext x
  show decide (IntKind.i64=IntKind.i64∧x.1=p)=(x.1==p)
  simp[Bool.beq_eq_decide_eq]]
 cases l.find? fun x=>x.1==p<;> rfl
theorem Ax(l:List (Int×Int))(p:Int):delL (.int .i64 p) (bg l)=bg (Pc.del l p):=by
 unfold delL bg Pc.del
 rw[ldJz]
 congr 2
 funext x
 show(!decide (IntKind.i64=IntKind.i64∧x.1=p))= !(x.1==p)
 simp[Bool.beq_eq_decide_eq]
theorem Ay(p b:Int): ∀ l:List (Int×Int),insL (.int .i64 p,.int .i64 b) (bg l)=bg (Pc.ins (p,b) l)
 |[]=>rfl
 |y::r=>by
  have ih:=Ay p b r
  unfold bg at ih ⊢
  simp only[laDz,insL,Pc.ins]
  rw[ih]
  have e:(Lit.int .i64 p).before (.int .i64 y.1)=decide (p<y.1):=by simp[Lit.before]
  rw[e]
  by_cases h:p<y.1
  ·simp[h]
  ·simp[h]
theorem Az(l:List (Int×Int))(p b:Int):putL (.int .i64 p) (.int .i64 b) (bg l)=bg (Pc.put l p b):=by
 unfold putL Pc.put
 rw[Ax,Ay]
end
end Go.Proofs.YtcicjklhbnipcaaGreatDoor
