/-
  Laid texts.
-/
import Derived.Test.YtcicjklhbnipcaaGreatDoorPkPlyL
set_option maxHeartbeats 16000000
set_option maxRecDepth 1000000
set_option linter.unusedVariables false
set_option linter.unusedSimpArgs false
namespace Go.Proofs.YtcicjklhbnipcaaGreatDoor
section
namespace In
section
variable {N:Nat}{t t':TabD}
theorem last_gone(k:Int):(gone t k).last=t.last:=by unfold gone;split<;> rfl
theorem last_loses(dir:Int)(s:ByteArray):(loses t dir s).last=t.last:=by unfold loses;rw[last_gone];rfl
theorem last_drop(k:Int):(drop t k).2.last=t.last:=by
 unfold drop
 split
 ·exact last_gone k
 ·rfl
theorem names_drop(I:Inv N t)(k c:Int):(at_ (drop t k).2 c).names=(at_ t c).names:=by
 have hl:=less_drop (t:=t) k
 unfold drop at hl ⊢
 split
 ·rename_i he
  rw[if_pos he] at hl
  have he':dropE t k=0:=by simpa using he
  unfold dropE at he'
  cases hf:find t.nodes k with
  |none=>rw[hf] at he';simp at he'
  |some n=>
   rw[hf] at he'
   have hh:n.holds≠0:=fun e=>by simp[e] at he'
   have hnd:n.dir=false:=by
    cases hd:n.dir with
    |false=>rfl
    |true=>exact absurd ((I.dirs n (find_some hf).1 hd).1) hh
   have hnn:=I.files n (find_some hf).1 hnd
   by_cases hc:c=k
   ·subst hc
    rw[at_some hf,hnn]
    cases hf2:find (gone (holdsDown t c) c).nodes c with
    |none=>unfold at_;rw[hf2]
    |some m=>
     obtain⟨m1,h1,-,h2⟩:=hl c m hf2
     rw[hf] at h1
     cases h1
     rw[at_some hf2]
     cases hm:m.names with
     |nil=>rfl
     |cons p r=>
      have:=h2 p (by rw[hm];exact .head _)
      rw[hnn] at this
      cases this
   ·have e:find (gone (holdsDown t k) k).nodes c=find t.nodes c:=by rw[find_gone_ne hc,find_holdsDown hf,if_neg hc]
    unfold at_
    rw[e]
 ·rfl
end
end In
namespace Fs
section
variable {N:Nat}{d:FsD}
theorem files_closes(I:Inv N d)(L:Legal d.t)(o:Int)(n:Nat):files (closes d o n)=files d:=by
 have L':=legal_closes I L o n
 have I':=In.inv_drop I.tbl ((hOf d.h o).getD n 0)
 rw[files_T L',files_T L]
 have hT:T (closes d o n)=T d:=by
  unfold T closes
  simp only
  rw[In.last_drop]
  exact In.tree_congr (fun c=>In.names_drop I.tbl _ c) _ _ _
 rw[←hT]
 refine List.map_congr_left fun e he=> ?_
 exact fileOf_kin (t:=d.t) (t':=(closes d o n).t) I' (In.kin_drop _) (T_mem (d:=closes d o n) I' he).2
theorem files_exitL(o:Int): ∀ (l:List Int) (n:Nat) (d:FsD) (N:Nat),Inv N d→Legal d.t→(∀ j,l[j]? =(hOf d.h o)[n+j]?)→files (exitL o l n d)=files d
 |[],_,_,_,_,_,_=>rfl
 |i::r,n,d,N,I,L,hl=>by
  unfold exitL
  have h0:=hl 0
  rw[List.getElem?_cons_zero,Nat.add_zero] at h0
  split
  ·rename_i hi
   rw[files_exitL o r (n+1) _ N (inv_closes0 I (n:=n) (by rw[List.getD_eq_getElem?_getD,←h0];exact hi)) (legal_closes I L o n) fun j=> ?_,files_closes I L]
   have hj:=hl (j+1)
   rw[List.getElem?_cons_succ] at hj
   unfold closes
   simp only
   rw[hOf_shut,if_pos rfl,List.getElem?_set_ne (by omega),hj]
   congr 1
   omega
  ·refine files_exitL o r (n+1) _ N I L fun j=> ?_
   have hj:=hl (j+1)
   rw[List.getElem?_cons_succ] at hj
   rw[hj]
   congr 1
   omega
theorem files_exit(I:Inv N d)(L:Legal d.t)(o:Int):files (exit d o)=files d:=files_exitL o _ 0 d N I L fun j=>by rw[Nat.zero_add]
theorem files_exits: ∀ (l:List Int) (d:FsD),Inv N d→Legal d.t→files (l.foldl exit d)=files d∧Legal (l.foldl exit d).t
 |[],_,_,L=>⟨rfl,L⟩
 |o::r,d,I,L=>by
  rw[List.foldl_cons]
  have:=files_exits r (exit d o) (inv_exit I o) (legal_exit I L o)
  rw[files_exit I L] at this
  exact this
theorem out_one(I:Ol.FInv N d)(L:Legal d.t){A B:List (List ByteArray×Int)}{x:List ByteArray×Int}(hT:T d=A++x::B)(hc:(In.at_ d.t x.2).names=[]):
  let d':=(do_ d 0 (opK (if(fileOf d.t x).dir then 2 else 11) (fileOf d.t x).path)).2
  Legal d'.t∧T d'=A++B∧ ∀ e∈T d',fileOf d'.t e=fileOf d.t e:=by
 have It:=I.inv.tbl
 obtain⟨x1,x2⟩:=x
 have hx:=T_mem It (e:=(x1,x2)) (by rw[hT];simp)
 obtain⟨hne,hg,h0⟩:=hx
 simp only at hne hg h0 hc
 rcases List.eq_nil_or_concat x1 with rfl|⟨q,s,rfl⟩
 ·exact absurd rfl hne
 rw[List.concat_eq_append] at hT hne hg ⊢
 have hok:=L.paths _ hne (by rw[hg];exact h0)
 have hs:=hok.names s (by simp)
 have hgs:In.leads (In.at_ d.t (In.go d.t 1 q)).names s=x2:=by rw[←hg,In.go_snoc]
 have hD0:In.go d.t 1 q≠0:=In.go_front It (b:=[s]) (by rw[hg];exact h0)
 have hDd:(In.at_ d.t (In.go d.t 1 q)).dir=true:=In.snoc_dir It (s:=s) (by rw[hg];exact h0)
 obtain⟨f1,f2⟩:=find_yes It hs (id:=In.go d.t 1 q) (by rw[hgs];exact h0)
 rw[hgs] at f2
 obtain⟨n,hn⟩:=In.go_there It (q:=q++[s]) (by rw[hg];exact h0)
 rw[hg] at hn
 have hat:=In.at_some hn
 have hpath:(fileOf d.t (q++[s],x2)).path=Pt.joined (q++[s]):=rfl
 have hdir:(fileOf d.t (q++[s],x2)).dir=n.dir:=by show(In.at_ d.t x2).dir=_;rw[hat]
 rw[hpath,hdir]
 have hw:at_ d (Pt.joined (q++[s]))=((In.go d.t 1 q,s),0):=by
  unfold at_ walk
  rw[Pt.split_joined hs]
  simp only
  rw[Pt.parts_joined (fun z hz=>hok.names z (by simp[hz])),go_walkL It q 1 (fun z hz=>hok.names z (by simp[hz])) hD0]
 have hdo:(do_ d 0 (opK (if n.dir then 2 else 11) (Pt.joined (q++[s])))).2=⟨In.loses d.t (In.go d.t 1 q) s,d.h⟩:=by
  have hpp:Pt.isPath (Pt.joined (q++[s]))=true:=Pt.isPath_joined hok
  cases hnd:n.dir with
  |true=>
   rw[if_pos rfl]
   have hr:Pt.right (opK 2 (Pt.joined (q++[s])))=true:=hpp
   unfold do_
   rw[if_neg (by rw[hr];simp),if_neg (by show ¬((2:Int)=3∨(2:Int)=4);decide),if_neg (by show ¬((2:Int)=5∨(2:Int)=6∨(2:Int)=7∨(2:Int)=8∨(2:Int)=9);decide),if_neg (by show ¬((2:Int)=13);decide)]
   show(⟨(named d (opK 2 (Pt.joined (q++[s])))).2,d.h⟩:FsD)=_
   have hE:In.removeE d.t (In.go d.t 1 q) s=0:=by
    unfold In.removeE
    rw[f1,f2]
    have:In.getE d.t x2 true=0:=by unfold In.getE;rw[hn];simp[hnd]
    rw[this,hc]
    rfl
   unfold named
   rw[show(opK 2 (Pt.joined (q++[s]))).path=Pt.joined (q++[s]) from rfl,hw,if_neg (by simp)]
   unfold namedAt
   rw[if_neg (by show ¬((2:Int)=1);decide),if_pos (by rfl)]
   unfold In.remove
   rw[hE]
   rfl
  |false=>
   rw[if_neg (by simp)]
   have hr:Pt.right (opK 11 (Pt.joined (q++[s])))=true:=hpp
   unfold do_
   rw[if_neg (by rw[hr];simp),if_neg (by show ¬((11:Int)=3∨(11:Int)=4);decide),if_neg (by show ¬((11:Int)=5∨(11:Int)=6∨(11:Int)=7∨(11:Int)=8∨(11:Int)=9);decide),if_neg (by show ¬((11:Int)=13);decide)]
   show(⟨(named d (opK 11 (Pt.joined (q++[s])))).2,d.h⟩:FsD)=_
   have hE:In.unlinkE d.t (In.go d.t 1 q) s=0:=by
    unfold In.unlinkE
    rw[f1,f2]
    have:In.getE d.t x2 false=0:=by unfold In.getE;rw[hn];simp[hnd]
    rw[this]
    rfl
   unfold named
   rw[show(opK 11 (Pt.joined (q++[s]))).path=Pt.joined (q++[s]) from rfl,hw,if_neg (by simp)]
   unfold namedAt
   rw[if_neg (by show ¬((11:Int)=1);decide),if_neg (by show ¬((11:Int)=2);decide),if_pos (by rfl)]
   unfold In.unlink
   rw[hE]
   rfl
 have hdf:=In.dir_found hDd
 have hl':In.leads (In.at_ d.t (In.go d.t 1 q)).names s≠0:=by rw[hgs];exact h0
 have It':In.Inv N (In.loses d.t (In.go d.t 1 q) s):=In.inv_loses It hdf hDd hl' (o:=n) (by rw[hgs];exact hn) (fun _=>by rw[←hat];exact hc)
 have hless:=In.less_loses (t:=d.t) (In.go d.t 1 q) s
 have L':Legal (In.loses d.t (In.go d.t 1 q) s):=legal_less It It' L hless
 have hxD:x2≠In.go d.t 1 q:=fun e=>by
  have hm:=In.leads_mem hl'
  rw[←e,hc] at hm
  cases hm
 have hnames: ∀ c,c≠In.go d.t 1 q→(In.at_ (In.loses d.t (In.go d.t 1 q) s) c).names=(In.at_ d.t c).names:=fun c hcD=>by
  by_cases hcx:c=x2
  ·rw[hcx,hc]
   cases hf:In.find (In.loses d.t (In.go d.t 1 q) s).nodes x2 with
   |none=>unfold In.at_;rw[hf]
   |some m=>
    obtain⟨m1,h1,-,h2⟩:=hless x2 m hf
    rw[In.at_some hf]
    cases hm:m.names with
    |nil=>rfl
    |cons p r=>
     have:=h2 p (by rw[hm];exact .head _)
     rw[←In.at_some h1,hc] at this
     cases this
  ·have e:=In.find_loses (x:=c) hdf (n:=n) (by rw[hgs];exact hn) (by rw[hgs];exact hcx)
   rw[if_neg hcD] at e
   unfold In.at_
   rw[e]
 have hD:(In.at_ (In.loses d.t (In.go d.t 1 q) s) (In.go d.t 1 q)).names=In.without (In.at_ d.t (In.go d.t 1 q)).names s:=by
  have e:=In.find_loses (x:=In.go d.t 1 q) hdf (n:=n) (by rw[hgs];exact hn) (by rw[hgs];exact hxD.symm)
  rw[if_pos rfl] at e
  rw[In.at_some e]
  rfl
 rw[hdo]
 refine⟨L', ?_,fun e he=>fileOf_kin (t:=d.t) (t':=In.loses d.t (In.go d.t 1 q) s) It' (In.kin_loses _ _) (T_mem (d:=⟨In.loses d.t (In.go d.t 1 q) s,d.h⟩) It' he).2⟩
 have h1:=In.tree_out It (s:=s) (PD:=q) rfl hD0 hDd (by rw[hgs];exact hc) hnames hD d.t.last.toNat 1 [] rfl (by decide)
 have hp:=In.tree_pre It d.t.last.toNat 1 []
 have hT':In.tree d.t d.t.last.toNat 1 []=A++(q++[s],x2)::B:=hT
 unfold T
 simp only
 rw[In.last_loses,h1,hT']
 rw[hT'] at hp
 obtain⟨-,hp2,hp3⟩:=List.pairwise_append.1 hp
 obtain⟨hp4,-⟩:=List.pairwise_cons.1 hp2
 rw[List.filter_append,List.filter_cons,if_neg (by simp)]
 have e1:A.filter (fun e=>decide (e.1≠q++[s]))=A:=List.filter_eq_self.2 fun a ha=>by
  simp only[ne_eq,decide_not,Bool.not_eq_true',decide_eq_false_iff_not]
  intro e
  exact hp3 a ha _ (.head _) (by rw[e];exact List.prefix_refl _)
 have e2:B.filter (fun e=>decide (e.1≠q++[s]))=B:=List.filter_eq_self.2 fun a ha=>by
  simp only[ne_eq,decide_not,Bool.not_eq_true',decide_eq_false_iff_not]
  intro e
  exact hp4 a ha (by rw[e];exact List.prefix_refl _)
 rw[e1,e2]
end
end Fs
namespace Ol
section
variable {N:Nat}{d:FsD}
def keep(e:List ByteArray×Int):Bool:= !Pt.under (Pt.joined e.1) Pt.run
theorem run_parts:Pt.parts Pt.run=[Pt.run]:=by
 have h: ∀ s∈[Pt.run],Pt.NameOk s:=fun s hs=>by
  rcases List.mem_singleton.1 hs with rfl
  exact⟨by decide,by decide⟩
 have:=Pt.parts_joined h
 rwa [Pt.joined_one] at this
theorem under_names{l:List ByteArray}(h: ∀ s∈l,Pt.NameOk s):Pt.under (Pt.joined l) Pt.run=(decide (1<l.length)&&decide (l.take 1=[Pt.run])):=by
 unfold Pt.under
 rw[run_parts,Pt.parts_joined h]
 rfl
theorem under_longer{l r:List ByteArray}(h: ∀ s∈l++r,Pt.NameOk s)(hu:Pt.under (Pt.joined l) Pt.run=true):Pt.under (Pt.joined (l++r)) Pt.run=true:=by
 rw[under_names fun s hs=>h s (by simp[hs])] at hu
 rw[under_names h]
 simp only[Bool.and_eq_true,decide_eq_true_eq] at hu ⊢
 obtain⟨h1,h2⟩:=hu
 refine⟨by rw[List.length_append];omega, ?_⟩
 rw[List.take_append_of_le_length (by omega)]
 exact h2
theorem empties_fold{f0:List ByteArray×Int→FileD}{T0:List (List ByteArray×Int)}(h0:T0.Pairwise fun a b=>¬b.1 <+: a.1)(hf: ∀ e,(f0 e).path=Pt.joined e.1): ∀ (n:Nat) (A S:List (List ByteArray×Int)) (d:FsD),A.length=n→T0=A++S→FInv N d→Fs.Legal d.t→Fs.T d=A++S.filter keep→(∀ e∈Fs.T d,Fs.fileOf d.t e=f0 e)→
  Fs.Legal ((A.map f0).reverse.foldl empty1 d).t∧Fs.T ((A.map f0).reverse.foldl empty1 d)=T0.filter keep∧ ∀ e∈T0.filter keep,Fs.fileOf ((A.map f0).reverse.foldl empty1 d).t e=f0 e:=by
 intro n
 induction n with
 |zero=>
  intro A S d hA hS I L hT he
  obtain rfl:=List.length_eq_zero_iff.1 hA
  rw[List.nil_append] at hS hT
  rw[hT] at he
  rw[hS]
  exact⟨L,hT,he⟩
 |succ n ih=>
  intro A S d hA hS I L hT he
  rcases List.eq_nil_or_concat A with rfl|⟨A,x,rfl⟩
  ·cases hA
  rw[List.concat_eq_append] at hA hS hT ⊢
  have hA':A.length=n:=by simpa using hA
  rw[List.append_assoc,List.singleton_append] at hS hT
  rw[List.map_append,List.map_singleton,List.reverse_append,List.reverse_singleton,List.singleton_append,List.foldl_cons]
  have hx:=Fs.T_mem I.inv.tbl (e:=x) (by rw[hT];simp)
  have hfx:=he x (by rw[hT];simp)
  have hok:=L.paths x.1 hx.1 (by rw[hx.2.1];exact hx.2.2)
  by_cases hk:Pt.under (Pt.joined x.1) Pt.run=true
  ·have hkx:keep x=false:=by unfold keep;rw[hk];rfl
   have hc:(In.at_ d.t x.2).names=[]:=by
    cases hcn:(In.at_ d.t x.2).names with
    |nil=>rfl
    |cons p r=>
     exfalso
     have hp:p∈(In.at_ d.t x.2).names:=by rw[hcn];exact .head _
     have hcd:=In.names_dir I.inv.tbl (id:=x.2) (by rw[hcn];simp)
     have hgx:In.go d.t 1 (x.1++[p.1])=p.2:=by rw[In.go_snoc,hx.2.1];exact In.leads_of I.inv.tbl hp
     have hp0:=In.name_ne I.inv.tbl hp
     have hdep:=In.depth I.inv.tbl I.up _ (q:=x.1) rfl (by rw[hx.2.1];exact hx.2.2) (by rw[hx.2.1];exact hcd)
     rw[hx.2.1] at hdep
     have hlast:=(In.find_pos' I.inv.tbl (In.dir_found hcd)).2
     have hm:=In.mem_tree I.inv.tbl d.t.last.toNat 1 [] (x.1++[p.1]) (by simp) (by rw[List.length_append,List.length_singleton];omega) (by rw[hgx];exact hp0)
     rw[List.nil_append,hgx] at hm
     have hm':(x.1++[p.1],p.2)∈A++x::S.filter keep:=by rw[←hT];exact hm
     rw[hS] at h0
     obtain⟨-,-,h3⟩:=List.pairwise_append.1 h0
     rcases List.mem_append.1 hm' with h4|h4
     ·exact h3 _ h4 x (.head _) (List.prefix_append _ _)
     ·rcases List.mem_cons.1 h4 with h5|h5
      ·have:=congrArg (fun e:List ByteArray×Int=>e.1.length) h5
       simp at this
      ·have h6:=(List.mem_filter.1 h5).2
       have hok2:=L.paths (x.1++[p.1]) (by simp) (by rw[hgx];exact hp0)
       unfold keep at h6
       rw[under_longer hok2.names hk] at h6
       cases h6
   obtain⟨L',hT',hf'⟩:=Fs.out_one I L hT hc
   have he1:empty1 d (f0 x)=(Fs.do_ d 0 (opK (if(Fs.fileOf d.t x).dir then 2 else 11) (Fs.fileOf d.t x).path)).2:=by
    unfold empty1
    rw[if_pos (by rw[hf];exact hk),hfx]
   have I':FInv N (empty1 d (f0 x)):=finv_empty1 I _
   rw[he1] at I' ⊢
   refine ih A (x::S) _ hA' hS I' L' ?_ fun e hem=> ?_
   ·rw[hT',List.filter_cons,hkx]
    rfl
   ·rw[hf' e hem]
    refine he e ?_
    rw[hT'] at hem
    rw[hT]
    rcases List.mem_append.1 hem with h|h
    ·exact List.mem_append_left _ h
    ·exact List.mem_append_right _ (.tail _ h)
  ·have hkx:keep x=true:=by
    unfold keep
    cases h:Pt.under (Pt.joined x.1) Pt.run with
    |true=>exact absurd h hk
    |false=>rfl
   have he1:empty1 d (f0 x)=d:=by
    unfold empty1
    rw[if_neg (by rw[hf];exact hk)]
   rw[he1]
   refine ih A (x::S) d hA' hS I L ?_ he
   rw[hT,List.filter_cons,hkx]
   rfl
def bare(l:List FileD):List FileD:=l.filter fun x=> !Pt.under x.path Pt.run
theorem files_empties(I:FInv N d)(L:Fs.Legal d.t):Fs.files (empties d)=bare (Fs.files d)∧Fs.Legal (empties d).t:=by
 have hF:=Fs.files_T L
 obtain⟨h1,h2,h3⟩:=empties_fold (N:=N) (f0:=Fs.fileOf d.t) (In.tree_pre I.inv.tbl d.t.last.toNat 1 []) (fun _=>rfl) _ (Fs.T d) [] d rfl (List.append_nil _).symm I L (List.append_nil _).symm fun _ _=>rfl
 rw[←hF] at h1 h2 h3
 refine⟨?_,h1⟩
 have e:Fs.files (empties d)=(Fs.T (empties d)).map (Fs.fileOf (empties d).t):=Fs.files_T h1
 have h2':Fs.T (empties d)=(Fs.T d).filter keep:=h2
 rw[e,h2']
 unfold bare
 rw[hF,List.filter_map]
 exact List.map_congr_left h3
theorem legal_again(I:FInv N d)(L:Fs.Legal d.t)(l:LogD):Fs.Legal (again d l).t:=by
 obtain⟨o,_|p⟩:=l
 ·exact Fs.legal_exit I.inv L o
 ·exact Fs.legal_do I.inv L o p
theorem legal_replay: ∀ (l:List LogD) {N:Nat} {d:FsD},(∀ x∈l,LogOk x)→FInv N d→N+3*l.length≤999999990→Fs.Legal d.t→Fs.Legal (replay d l).t
 |[],_,_,_,_,_,h=>h
 |x::r,N,d,hl,I,hN,h=>by
  rw[List.length_cons] at hN
  exact legal_replay r (fun y hy=>hl y (.tail _ hy)) (finv_again I (by omega) (hl x (.head _))) (by omega) (legal_again I h x)
structure Lawful (D:DskD):Prop where
 now:Fs.Legal D.now.t
 base:Fs.Legal D.base.t
variable {D:DskD}{o:Int}{p:OpD}
theorem lawful_new(q:Int):Lawful (new q):=⟨Fs.legal_new q,Fs.legal_new q⟩
theorem lawful_do(I:Inv N D)(h:Lawful D):Lawful (do_ D o p).2:=by
 unfold do_
 split
 ·exact⟨h.now,h.now⟩
 ·exact⟨Fs.legal_do I.now.inv h.now o p,h.base⟩
theorem lawful_exit(I:Inv N D)(h:Lawful D):Lawful (exit D o):=by
 unfold exit
 split
 ·exact⟨Fs.legal_exit I.now.inv h.now o,h.base⟩
 ·exact h
theorem cut_files(I:Inv N D)(h:Lawful D)(hN:N≤999999990)(k:Int):Fs.files (cutFs D k)=bare (Fs.files (replay D.base (D.log.take (max 0 (min k D.log.length)).toNat)))∧Fs.Legal (cutFs D k).t:=by
 obtain⟨K,h1,h2⟩:=I.base
 have h3:=take_len D k
 have hf:=finv_replay (D.log.take (max 0 (min k D.log.length)).toNat) (fun x hx=>I.ok x (List.mem_of_mem_take hx)) h1 (by omega)
 have hl:=legal_replay (D.log.take (max 0 (min k D.log.length)).toNat) (fun x hx=>I.ok x (List.mem_of_mem_take hx)) h1 (by omega) h.base
 obtain⟨e1,e2⟩:=Fs.files_exits (N:=_) (Fs.owners (replay D.base (D.log.take (max 0 (min k D.log.length)).toNat))) _ hf.inv hl
 obtain⟨e3,e4⟩:=files_empties (finv_exits hf) e2
 refine⟨?_,e4⟩
 unfold cutFs
 rw[e3]
 show bare (Fs.files (exits (replay D.base (D.log.take (max 0 (min k D.log.length)).toNat))))=_
 unfold exits
 rw[e1]
theorem lawful_cut(I:Inv N D)(h:Lawful D)(hN:N≤999999990)(k:Int):Lawful (cut D k):=⟨(cut_files I h hN k).2,(cut_files I h hN k).2⟩
end
end Ol
end
section
open Go.RowKit Go.Maps
section
variable {P:Program}{K:Act→World→Prop}{a:Act}{w w0 w':World}{ops:Array Oper}{l:List (Oper×Nat)}{o:Oper}{F G:List Nat}{L Lr M M':List Ent}{ty:TypeId}
theorem At.only (h:At M w)(ho:Only F w w')(hF: ∀ k∈keysOf M,k∉F):At M w':=
 ⟨fun x hx=>by rw[ho.block x.1 (h.lt _ (List.mem_map_of_mem hx)) (hF _ (List.mem_map_of_mem hx))];exact h.has x hx,h.nd⟩
theorem St.beside(hM:St w0 F w L)(ho:Only G w w')(hG: ∀ k∈G,(k∈F∨w0.heap.size≤k)∧k∉keysOf L):St w0 F w' L:=
 ⟨hM.only.then ho fun k hk=>(hG k hk).1,fun x hx=>by rw[ho.block x.1 (hM.lt hx) (fun hm=>(hG _ hm).2 (List.mem_map_of_mem hx))];exact hM.holds x hx,hM.nd,hM.own⟩
theorem St.unflagM{A B:List Ent}(hM:St w0 F w (A++B)):St w0 F w (A.map unflag++B):=by
 refine⟨hM.only,fun x hx=> ?_, ?_,fun x hx h1=> ?_⟩
 ·rcases List.mem_append.1 hx with hx|hx
  ·obtain⟨y,hy,rfl⟩:=List.mem_map.1 hx
   exact hM.holds y (List.mem_append_left _ hy)
  ·exact hM.holds x (List.mem_append_right _ hx)
 ·have:=hM.nd
  rw[List.map_append] at this ⊢
  have e:(A.map unflag).map (·.1)=A.map (·.1):=by rw[List.map_map];rfl
  rw[e]
  exact this
 ·rcases List.mem_append.1 hx with hx|hx
  ·obtain⟨y,hy,rfl⟩:=List.mem_map.1 hx
   cases h1
  ·exact hM.own x (List.mem_append_right _ hx) h1
theorem St.reads(hM:St w0 F w L)(hA:At M w)(hd: ∀ k∈keysOf M,k∉keysOf L):St w0 F w (M.map unflag++L):=by
 refine⟨hM.only,fun x hx=> ?_, ?_,fun x hx h1=> ?_⟩
 ·rcases List.mem_append.1 hx with hx|hx
  ·obtain⟨y,hy,rfl⟩:=List.mem_map.1 hx
   exact hA.has y hy
  ·exact hM.holds x hx
 ·show(keysOf (M.map unflag++L)).Nodup
  rw[keys_app,keys_unflag,List.nodup_append]
  exact⟨hA.nd,hM.nd,fun x hx y hy e=>hd x hx (e▸hy)⟩
 ·rcases List.mem_append.1 hx with hx|hx
  ·obtain⟨y,hy,rfl⟩:=List.mem_map.1 hx
   cases h1
  ·exact hM.own x hx h1
theorem Held.backG{A B:List Ent}(hM:St w0 F w (A++(M++B)))(hs:Sub Lr A)(h':St w G w' M')(hG: ∀ k∈G,∃ r,(k,true,r)∈M)(hh:Held w0 F Lr w):Held w0 F Lr w':=by
 have hnd:=hM.nd
 simp only[List.map_append,List.nodup_append] at hnd
 obtain⟨n1,⟨n2,n3,n4⟩,n5⟩:=hnd
 refine⟨hh.only.then h'.only (fun k hk=> ?_),fun z hz=> ?_⟩
 ·obtain⟨r,hr⟩:=hG k hk
  exact hM.own (k,true,r) (by simp[hr]) rfl
 ·rw[h'.only.block z.1 (hh.has.lt hz) (fun hm=>by
   obtain⟨r,hr⟩:=hG _ hm
   exact n5 z.1 (List.mem_map_of_mem (hs.mem z hz)) z.1 (by rw[List.mem_append];exact .inl (List.mem_map_of_mem (f:=(·.1)) hr)) rfl)]
  exact hh.has z hz
theorem St.callAllocG{o':Oper}{c:Nat}{f:FuncId}{ags:Array Operand}{ts:Array TypeId}{args:Array Value}(hx:o.op= .call {callee:= .value (.func f),args:=ags,argTypes:=ts})(hx':o'.op= .alloc ty){A M B:List Ent}(hM:St w0 F w (A++(M++B)))(hg:o.guard=none)(hg':o'.guard=none)(hd: ∀ d,o.dst=some d→o'.dst≠some d)
  (hf:bodyB P f=true) (he:ags.map a.eval=args) (he': ∀ p,ags.map (a.put o'.dst p).eval=args) {z:Value} (hz:((P.info? ty).bind (·.zero))=some z) (hs:Sub Lr A) (hG: ∀ k∈G,∃ r,(k,true,r)∈M) {R:World→World→Value→List Ent→Prop}
  (hC: ∀ W,St w0 F W (A++(M++B))→Calls P f args W fun e w'=> ∃ v M',R W w' v M'∧e= .returned v∧Grow W (keysOf M) (keysOf M')∧St W G w' M')
  (h: ∀ W w1 w' b v M',w.heap.size≤W.heap.size→R W w1 v M'→St w0 F w' ((b,true,.cells z.cells.toList ty)::(A++(M' ++B)))→wpSeq P ops K (Held w0 F Lr) l ((a.put o.dst v).put o'.dst (.pointer (some ⟨b,0,none⟩))) w'):wpSeq P ops K (Held w0 F Lr) ((o,4)::(o',c)::l) a w:=by
 have hsw: ∀ M',Swap (A++(M++B)) M M' (A++(M' ++B)):=fun M'=> .past .here
 refine wpSeq_pair hg hg' ?_ ?_
 ·unfold Oper.wp
  rw[run_call w hx hf he,Oper.upon_enter]
  refine(hC w hM).mono fun e w' ⟨v,M',hR,h1,hgr,hN⟩=> ?_
  subst h1
  refine⟨Held.backG hM hs hN hG, ?_⟩
  rw[run_alloc _ hx' hz]
  exact⟨fun hh=>⟨hh.only.alloc _,hh.has.push _⟩,h _ _ _ _ v M' (Nat.le_refl _) hR ((hM.backG (hsw M') hN hG hgr).push _ (by simp[Res.holds]))⟩
 ·unfold Oper.wp
  rw[run_alloc w hx' hz]
  refine⟨fun hh=>⟨hh.only.alloc _,hh.has.push _⟩, ?_⟩
  have hp:=hM.push (r:= .cells z.cells.toList ty) (.cells z.cells ty) (by simp[Res.holds])
  rw[run_call _ hx hf (he' _),Oper.upon_enter]
  refine(hC _ hp.forget).mono fun e w' ⟨v,M',hR,h1,hgr,hN⟩=> ?_
  subst h1
  refine⟨Held.backG hp.forget hs hN hG, ?_⟩
  rw[←Act.put_comm _ _ _ hd]
  exact h _ _ _ _ v M' (by simp) hR (hp.backG (.skip (hsw M')) hN hG hgr)
end
section
variable {w w' w0 w1 w2:World}{X X1 X':RFX}{t t1 t':TabD}{zs zs1 zs':List NodV}{hs hs1 hs':List HndD}{N M:Nat}{F:List Nat}{L:List Ent}{d d':FsD}
abbrev rfC(X:RFX)(d:FsD)(zs:List NodV)(hs:List HndD):List Ent:=rfL X d.t.quota (d.t.last+1) zs hs
theorem RFs.at_(h:RFs N X d zs hs w)(hA:At (rfC X d zs hs) w'):RFs N X d zs hs w':=⟨⟨hA,h.is.sl,h.is.names,h.is.len,h.is.nodes,h.is.hok,h.is.hlen⟩,h.like,h.len,h.inv⟩
theorem RFs.only (h:RFs N X d zs hs w)(ho:Only F w w')(hF: ∀ k∈keysOf (rfC X d zs hs),k∉F):RFs N X d zs hs w':=h.at_ (h.is.at_.only ho hF)
theorem RFsTo.st(h:RFsTo N X d zs hs d' X' zs' hs' w w'):St w (rfG X hs) w' (rfC X' d' zs' hs'):=⟨h.only,h.fs.is.at_.has,h.fs.is.at_.nd,fun y hy h1=>h.own _ (mem_rfG.2 (rfL_own hy h1))⟩
theorem rfG_keys{q nx:Int}: ∀ k∈rfG X hs,k∈keysOf (rfL X q nx zs hs):=fun k hk=>by
 obtain⟨r,hr⟩:=rfG_mem (zs:=zs) (q:=q) (nx:=nx) k hk
 exact List.mem_map_of_mem (f:=(·.1)) hr
abbrev newL(X:RFX)(d:FsD)(zs:List NodV)(hs:List HndD):List Ent:=rfE X hs.length::(rE X.x d.t.quota (d.t.last+1) zs.length::nodL X.x.s zs++hndL X.h hs)
theorem newL_flag:flagged (newL X d zs hs):=fun y hy=>by
 rcases List.mem_cons.1 hy with rfl|hy
 ·rfl
 ·rcases List.mem_append.1 hy with hy|hy
  ·rcases List.mem_cons.1 hy with rfl|hy
   ·rfl
   ·exact slL_flag _ _ _ _ y hy
  ·exact slL_flag _ _ _ _ y hy
theorem new_perm:((zs.flatMap NodV.ents).map unflag++(nodL X.x.s zs).map unflag++(rfE X hs.length::rE X.x d.t.quota (d.t.last+1) zs.length::hndL X.h hs)).Perm (rfC X d zs hs):=by
 show List.Perm _ (rfE X hs.length::(hndL X.h hs++rE X.x d.t.quota (d.t.last+1) zs.length::(nodL X.x.s zs++zs.flatMap NodV.ents).map unflag))
 rw[List.map_append]
 exact(perm_by (by intro _ x;simp only[List.append_eq,List.count_append,List.count_cons,List.count_nil,List.cons_append,List.nil_append];omega))
theorem newL_perm:(newL X d zs hs).Perm (nodL X.x.s zs++(rfE X hs.length::rE X.x d.t.quota (d.t.last+1) zs.length::hndL X.h hs)):=(perm_by (by intro _ x;simp only[List.append_eq,List.count_append,List.count_cons,List.count_nil,List.cons_append,List.nil_append];omega))
theorem RFs.ents(h:RFs N X d zs hs w):At (zs.flatMap NodV.ents) w:=h.is.tbl.raw.ents
theorem ents_keys{q nx:Int}: ∀ k∈keysOf (zs.flatMap NodV.ents),k∈keysOf (rfL X q nx zs hs):=fun k hk=>rfL_sub_keys k (by
 unfold rL
 rw[show keysOf (rE X.x q nx zs.length::(nodL X.x.s zs++zs.flatMap NodV.ents).map unflag)=X.x.g::keysOf ((nodL X.x.s zs++zs.flatMap NodV.ents).map unflag) from rfl,keys_unflag,keys_app]
 exact .tail _ (List.mem_append_right _ hk))
theorem St.cloned{L:List Ent}(h:RFs N X d zs hs w1)(hM:St w0 F w (newL X' d zs hs++L))(hE:At (zs.flatMap NodV.ents) w)(hd: ∀ k∈keysOf (zs.flatMap NodV.ents),k∉keysOf (newL X' d zs hs++L)):St w0 F w (rfC X' d zs hs++L):=by
 have h1:=hM.reads hE hd
 have h2:St w0 F w (nodL X'.x.s zs++((zs.flatMap NodV.ents).map unflag++((rfE X' hs.length::rE X'.x d.t.quota (d.t.last+1) zs.length::hndL X'.h hs)++L))):=h1.perm (by
  refine List.Perm.trans (List.Perm.append_left _ (List.Perm.append_right _ newL_perm)) ?_
  exact(perm_by (by intro _ x;simp only[List.append_eq,List.count_append,List.count_cons,List.count_nil,List.cons_append,List.nil_append];omega)))
 refine h2.unflagM.perm (List.Perm.trans ?_ (List.Perm.append_right _ new_perm))
 exact(perm_by (by intro _ x;simp only[List.append_eq,List.count_append,List.count_cons,List.count_nil,List.cons_append,List.nil_append];omega))
theorem new_keys{k:Nat}(hk:k∈keysOf (rfC X' d zs hs)):k∈keysOf (newL X' d zs hs)∨k∈keysOf (zs.flatMap NodV.ents):=by
 have h1:=((new_perm (X:=X') (d:=d) (zs:=zs) (hs:=hs)).map (·.1)).mem_iff.2 hk
 rw[List.map_append,List.map_append,List.mem_append,List.mem_append] at h1
 rcases h1 with (h1|h1)|h1
 ·exact .inr (by rw[←keys_unflag];exact h1)
 ·refine .inl (((newL_perm (X:=X') (d:=d) (zs:=zs) (hs:=hs)).map (·.1)).mem_iff.2 ?_)
  rw[List.map_append,List.mem_append]
  exact .inl (by have h2:k∈keysOf ((nodL X'.x.s zs).map unflag):=h1;rw[keys_unflag] at h2;exact h2)
 ·refine .inl (((newL_perm (X:=X') (d:=d) (zs:=zs) (hs:=hs)).map (·.1)).mem_iff.2 ?_)
  rw[List.map_append,List.mem_append]
  exact .inr h1
theorem rCloneF_any(h:RFs N X d zs hs w0):Calls Tryz.prog 85 #[.pointer (some ⟨X.f,0,none⟩)] w0 fun e w'=> ∃ X',e= .returned (.pointer (some ⟨X'.f,0,none⟩))∧Hid (∀ W,At (rfC X' d zs hs) W→RFs N X' d zs hs W)∧St w0 [] w' (newL X' d zs hs):=by
 refine(rClone9_any h.is).mono ?_
 rintro e w' ⟨X',rfl,hk,hn,hS⟩
 exact⟨X',rfl,qh fun W hA=>⟨⟨hA,hn,h.is.names,h.is.len,h.is.nodes,hk,h.is.hlen⟩,h.like,h.len,h.inv⟩,hS⟩
end
/-! ### the disk -/
def opZ:OpD:=⟨0,⟨#[]⟩,⟨#[]⟩,0,0,0,⟨#[]⟩,0,0⟩
def logC:LogD→List Value
 |(o,some p)=> .int .i64 o:: .bool false::p.cells
 |(o,none)=> .int .i64 o:: .bool true::opZ.cells
theorem logC_len(z:LogD):(logC z).length=11:=by obtain⟨o,_|p⟩:=z<;> rfl
theorem logsC_len: ∀ l:List LogD,(l.flatMap logC).length=l.length*11
 |[]=>rfl
 |z::r=>by rw[List.flatMap_cons,List.length_append,logsC_len r,List.length_cons,logC_len];omega
theorem logC_at{l:List LogD}{k:Nat}{z:LogD}(h:l[k]? =some z):((l.flatMap logC).drop (k*11)).take 11=logC z:=by
 induction l generalizing k with
 |nil=>simp at h
 |cons y r ih=>
  rw[List.flatMap_cons]
  cases k with
  |zero=>
   simp only[List.getElem?_cons_zero,Option.some.injEq] at h
   subst h
   rw[Nat.zero_mul,List.drop_zero,List.take_append_of_le_length (by rw[logC_len];omega),List.take_of_length_le (by rw[logC_len];omega)]
  |succ k=>
   rw[List.getElem?_cons_succ] at h
   rw[show(k+1)*11=(logC y).length+k*11 by rw[logC_len];omega,List.drop_append,List.drop_of_length_le (by omega),Nat.add_sub_cancel_left,List.nil_append]
   exact ih h
structure RDX where
 d:Nat
 now:RFX
 base:RFX
 s:Option (Nat×Nat)
abbrev lgL(s:Option (Nat×Nat))(l:List LogD):List Ent:=slL s (l.flatMap logC) 36 11
def rdE(X:RDX)(n:Nat):Ent:=(X.d,true,.cells [.pointer (some ⟨X.now.f,0,none⟩),.pointer (some ⟨X.base.f,0,none⟩),slV X.s n] 72)
def rdL(X:RDX)(D:DskD)(zs:List NodV)(hs:List HndD):List Ent:=rdE X D.log.length::(lgL X.s D.log++rfC X.now D.now zs hs)
def rdG(X:RDX)(D:DskD)(hs:List HndD):List Nat:=X.d::(keysOf (lgL X.s D.log)++rfG X.now hs)
structure RDV where
 zs:List NodV
 hs:List HndD
 zb:List NodV
 hb:List HndD
def rdK(X:RDX)(D:DskD)(V:RDV):List Nat:=keysOf (rdL X D V.zs V.hs)++keysOf (rfC X.base D.base V.zb V.hb)
structure RLaw (D:DskD):Prop where
 now:Fs.Legal D.now.t
 base:Fs.Legal D.base.t
 sm: ∀ l∈D.log,∀ p,l.2=some p→p.Sm
structure RDs (N:Nat) (X:RDX) (D:DskD) (V:RDV) (w:World):Prop where
 at_:At (rdL X D V.zs V.hs) w
 lok:SlOK X.s D.log.length (D.log.flatMap logC) 11
 now:RFs N X.now D.now V.zs V.hs w
 base:RFs N X.base D.base V.zb V.hb w
 inv:Ol.Inv N D
 law:RLaw D
 apart: ∀ k∈rdG X D V.hs,k∉keysOf (rfC X.base D.base V.zb V.hb)
section
variable {w w' w0 w1 w2:World}{X X':RDX}{D D':DskD}{V V':RDV}{N M:Nat}{F:List Nat}{L:List Ent}
theorem rdL_keys{zs:List NodV}{hs:List HndD}:keysOf (rdL X D zs hs)=X.d::(keysOf (lgL X.s D.log)++keysOf (rfC X.now D.now zs hs)):=by
 unfold rdL
 rw[show keysOf (rdE X D.log.length::(lgL X.s D.log++rfC X.now D.now zs hs))=X.d::keysOf (lgL X.s D.log++rfC X.now D.now zs hs) from rfl,keys_app]
theorem rdG_keys: ∀ k∈rdG X D V.hs,k∈keysOf (rdL X D V.zs V.hs):=fun k hk=>by
 rw[rdL_keys]
 unfold rdG at hk
 rcases List.mem_cons.1 hk with rfl|hk
 ·exact .head _
 ·rcases List.mem_append.1 hk with hk|hk
  ·exact .tail _ (List.mem_append_left _ hk)
  ·exact .tail _ (List.mem_append_right _ (rfG_keys k hk))
theorem rdG_mem{k:Nat}{hs:List HndD}:k∈rdG X D hs↔k=X.d∨k∈keysOf (lgL X.s D.log)∨k∈rfG X.now hs:=by
 unfold rdG
 simp
theorem rdL_own{zs:List NodV}{hs:List HndD}{y:Ent}(hy:y∈rdL X D zs hs)(h1:y.2.1=true):y.1∈rdG X D hs:=by
 unfold rdL at hy
 rcases List.mem_cons.1 hy with rfl|hy
 ·exact rdG_mem.2 (.inl rfl)
 ·rcases List.mem_append.1 hy with hy|hy
  ·exact rdG_mem.2 (.inr (.inl (List.mem_map_of_mem hy)))
  ·exact rdG_mem.2 (.inr (.inr (mem_rfG.2 (rfL_own hy h1))))
theorem rdG_flag{zs:List NodV}{hs:List HndD}: ∀ k∈rdG X D hs,∃ r,(k,true,r)∈rdL X D zs hs:=fun k hk=>by
 unfold rdL
 rcases rdG_mem.1 hk with rfl|hk|hk
 ·exact⟨_,.head _⟩
 ·obtain⟨y,hy,rfl⟩:=List.mem_map.1 hk
  have h1:=slL_flag _ _ _ _ y hy
  exact⟨y.2.2,.tail _ (List.mem_append_left _ (by rw[show(y.1,true,y.2.2)=y by rw[←h1]];exact hy))⟩
 ·obtain⟨r,hr⟩:=rfG_mem (zs:=zs) (q:=D.now.t.quota) (nx:=D.now.t.last+1) k hk
  exact⟨r,.tail _ (List.mem_append_right _ hr)⟩
theorem RDs.st(h:RDs N X D V w):St w (rdG X D V.hs) w (rdL X D V.zs V.hs):=⟨Only.refl _ w,h.at_.has,h.at_.nd,fun y hy h1=> .inl (rdL_own hy h1)⟩
theorem RDs.more(h:RDs N X D V w)(hM:N≤M):RDs M X D V w:=⟨h.at_,h.lok,h.now.more hM,h.base.more hM,h.inv.more hM,h.law,h.apart⟩
theorem RDs.only (h:RDs N X D V w)(ho:Only F w w')(hF: ∀ k∈rdK X D V,k∉F):RDs N X D V w':=by
 have h1: ∀ k∈keysOf (rdL X D V.zs V.hs),k∉F:=fun k hk=>hF k (List.mem_append_left _ hk)
 refine⟨h.at_.only ho h1,h.lok,h.now.only ho fun k hk=>h1 k ?_,h.base.only ho fun k hk=>hF k (List.mem_append_right _ hk),h.inv,h.law,h.apart⟩
 rw[rdL_keys]
 exact .tail _ (List.mem_append_right _ hk)
theorem RDs.below(h:RDs N X D V w)(hb:Below w.heap.size w w'):RDs N X D V w':=h.only (F:=[]) (Only.of_below hb) fun _ _=>nofun
theorem RDs.lt(h:RDs N X D V w): ∀ k∈rdK X D V,k<w.heap.size:=fun k hk=>(List.mem_append.1 hk).elim (h.at_.lt k) (h.base.is.at_.lt k)
structure RDTo (N:Nat) (X:RDX) (D:DskD) (V:RDV) (X':RDX) (D':DskD) (V':RDV) (w w':World):Prop where
 d:X'.d=X.d
 is:RDs N X' D' V' w'
 only:Only (rdG X D V.hs) w w'
 own: ∀ k∈rdG X' D' V'.hs,k∈rdG X D V.hs∨w.heap.size≤k
 grow:Grow w (rdK X D V) (rdK X' D' V')
theorem St.rdTo{Y:RDX}{E:DskD}{U:RDV}(hM:St w0 (rdG X D V.hs) w (rdL Y E U.zs U.hs))(hb:RFs N Y.base E.base U.zb U.hb w)(hd:Y.d=X.d)(hk:SlOK Y.s E.log.length (E.log.flatMap logC) 11)
  (hn:At (rfC Y.now E.now U.zs U.hs) w→RFs N Y.now E.now U.zs U.hs w) (I:Ol.Inv N E) (L:RLaw E) (hap: ∀ k∈rdG Y E U.hs,k∉keysOf (rfC Y.base E.base U.zb U.hb)) (hg:Grow w0 (rdK X D V) (rdK Y E U)):RDTo N X D V Y E U w0 w where
 d:=hd
 is:=⟨hM.whole,hk,hn (hM.whole.sub (by unfold rdL;exact(List.sublist_append_right _ _).cons _)),hb,I,L,hap⟩
 only:=hM.only
 own:=fun k hk=>by
  obtain⟨r,hr⟩:=rdG_flag (zs:=U.zs) k hk
  exact hM.own (k,true,r) hr rfl
 grow:=hg
end
end
section
open Go.RowKit Go.Maps
section
variable {w w' w0 w1 w2:World}{X X':RDX}{Z Z':RFX}{D D':DskD}{V V':RDV}{N M:Nat}{F:List Nat}{L:List Ent}{d:FsD}{zs:List NodV}{hs:List HndD}
theorem ents_own(h:RFs N Z d zs hs w): ∀ k∈rfG Z hs,k∉keysOf (zs.flatMap NodV.ents):=fun k hk hm=>by
 have hnd:=h.is.at_.nd
 rw[rfL_keys] at hnd
 unfold rL at hnd
 rw[show keysOf (rE Z.x d.t.quota (d.t.last+1) zs.length::(nodL Z.x.s zs++zs.flatMap NodV.ents).map unflag)=Z.x.g::keysOf ((nodL Z.x.s zs++zs.flatMap NodV.ents).map unflag) from rfl,keys_unflag,keys_app] at hnd
 simp only[List.nodup_cons,List.nodup_append,List.mem_append,List.mem_cons,not_or] at hnd
 obtain⟨⟨-,-,-,h1⟩,-,⟨⟨-,h2⟩,-⟩,h3⟩:=hnd
 rcases mem_rfG.1 hk with rfl|hk|rfl
 ·exact h1 hm
 ·exact(h3 k hk k (.inr (.inr hm))) rfl
 ·exact h2 hm
theorem At.cloned{Z1:RFX}(h:RFs N Z d zs hs w1)(hA:At (newL Z1 d zs hs++rfC Z d zs hs) w):At (rfC Z1 d zs hs) w:=by
 have hn:=hA.nd
 rw[keys_app,List.nodup_append] at hn
 have h1:=(h.at_ (hA.sub (List.sublist_append_right _ _))).ents
 have hS:=(hA.sub (M:=newL Z1 d zs hs) (List.sublist_append_left _ _)).st
 have h2:=St.cloned (L:=[]) (X':=Z1) h (by rw[List.append_nil];exact hS) h1 (fun k hk hm=>by
  rw[List.append_nil] at hm
  exact hn.2.2 k hm k (ents_keys k hk) rfl)
 rw[List.append_nil] at h2
 exact h2.whole
theorem St.rdTo2{Y:RDX}{E:DskD}{U:RDV}(h:RDs M X D V w0)(hM:St w0 (rdG X D V.hs) w (rdL Y E U.zs U.hs))(hd:Y.d=X.d)(hk:SlOK Y.s E.log.length (E.log.flatMap logC) 11)
  (hn:At (rfC Y.now E.now U.zs U.hs) w→RFs N Y.now E.now U.zs U.hs w) (I:Ol.Inv N E) (L:RLaw E) (hMN:M≤N) (hb:Y.base=X.base) (he:E.base=D.base) (hz:U.zb=V.zb) (hh:U.hb=V.hb) (hg:Grow w0 (rdK X D V) (keysOf (rfC Y.now E.now U.zs U.hs))):RDTo N X D V Y E U w0 w:=by
 have hB:RFs N X.base D.base V.zb V.hb w:=(h.base.more hMN).only hM.only fun k hk hm=>h.apart k hm hk
 refine hM.rdTo (by rw[hb,he,hz,hh];exact hB) hd hk hn I L (fun k hk=> ?_) (fun k hk=> ?_)
 ·rw[hb,he,hz,hh]
  obtain⟨r,hr⟩:=rdG_flag (zs:=U.zs) k hk
  rcases hM.own (k,true,r) hr rfl with h1|h1
  ·exact h.apart k h1
  ·intro hm
   have:=h.base.is.at_.lt k hm
   exact absurd h1 (by simp only;omega)
 ·unfold rdK at hk
  rcases List.mem_append.1 hk with hk|hk
  ·rw[rdL_keys] at hk
   rcases List.mem_cons.1 hk with rfl|hk
   ·exact .inl (List.mem_append_left _ (by rw[rdL_keys,hd];exact .head _))
   ·rcases List.mem_append.1 hk with hk|hk
    ·obtain⟨y,hy,rfl⟩:=List.mem_map.1 hk
     rcases hM.own y (by unfold rdL;exact .tail _ (List.mem_append_left _ hy)) (slL_flag _ _ _ _ y hy) with h1|h1
     ·exact .inl (List.mem_append_left _ (rdG_keys _ h1))
     ·exact .inr h1
    ·exact hg k hk
  ·rw[hb,he,hz,hh] at hk
   exact .inl (List.mem_append_right _ hk)
theorem rsync_any(h:RDs N X D V w0):Calls Tryz.prog 88 #[.pointer (some ⟨X.d,0,none⟩)] w0 fun e w'=>e= .returned (.tuple #[])∧ ∃ X' V',RDTo N X D V X' (Ol.sync D) V' w0 w':=by
 have hM:=h.st
 obtain⟨xd,xn,xb,xs⟩:=X
 obtain⟨zs,hs,zb,hb⟩:=V
 obtain⟨va,vc,hv,-⟩:=slV_open h.lok
 unfold rdL rdE at hM
 simp only at hM hv
 rw[hv] at hM
 have HC:=qh (fun (W:World) (hA:At (rfC xn D.now zs hs) W)=>rCloneF_any (h.now.at_ hA))
 have HH:=qh h
 clear h hv
 go_enter Tryz.func88,Tryz.ntmps88
 (refine qw ?_;intros;rename_i hM)
 (refine qKx ?_;intro R hR)
 refine(HC.out _ (hM.part (Part.skip (Part.past Part.all)))).mono ?_
 rintro e w' ⟨X',rfl,HX,hN⟩
 replace hM:=(hM.madeM hN newL_flag).perm List.perm_middle
 refine qho ?_;clear hR R hN HC
 (refine qq ?_)
 (refine qw ?_;intros;rename_i hM)
 (refine qf ?_)
 rename World=>w
 have h:=HH.out
 have hnd:=hM.nd
 have hE:St w0 (rdG ⟨xd,xn,xb,xs⟩ D hs) w (rdL ⟨xd,xn,X',none⟩ (Ol.sync D) zs hs):=hM.subM (List.Sublist.cons_cons _ (by
  show(rfC xn D.now zs hs).Sublist _
  exact(List.sublist_append_right _ _).trans (List.sublist_append_right _ _)))
 have hA:At (newL X' D.now zs hs++rfC xn D.now zs hs) w:=hM.whole.sub ((List.Sublist.append_left (List.sublist_append_right _ _) _).cons _)
 have hC:=At.cloned h.now hA
 have hNd:=hA.nd
 rw[keys_app,List.nodup_append] at hNd
 have hdn:xd∉keysOf (newL X' D.now zs hs)∧xd∉keysOf (rfC xn D.now zs hs):=by
  have h2:(xd::(keysOf (newL X' D.now zs hs)++(keysOf (lgL xs D.log)++keysOf (rfC xn D.now zs hs)))).Nodup:=by
   rw[List.map_cons,List.map_append,List.map_append] at hnd
   exact hnd
  have h3:=(List.nodup_cons.1 h2).1
  exact⟨fun h=>h3 (List.mem_append_left _ h),fun h=>h3 (List.mem_append_right _ (List.mem_append_right _ h))⟩
 refine⟨rfl,⟨xd,xn,X',none⟩,⟨zs,hs,zs,hs⟩,hE.rdTo (HX.out w hC) rfl ⟨rfl,rfl⟩ (fun hA=>h.now.at_ hA) (Ol.inv_sync h.inv) ⟨h.law.now,h.law.now,nofun⟩ (fun k hk hm=> ?_) (fun k hk=> ?_)⟩
 ·rcases new_keys hm with h1|h1
  ·rcases rdG_mem.1 hk with rfl|hk|hk
   ·exact hdn.1 h1
   ·cases hk
   ·exact hNd.2.2 k h1 k (rfG_keys k hk) rfl
  ·rcases rdG_mem.1 hk with rfl|hk|hk
   ·exact hdn.2 (ents_keys k h1)
   ·cases hk
   ·exact ents_own h.now k hk h1
 ·unfold rdK at hk
  have hnow: ∀ k∈keysOf (rfC xn D.now zs hs),k∈rdK ⟨xd,xn,xb,xs⟩ D ⟨zs,hs,zb,hb⟩:=fun k hk=>List.mem_append_left _ (by rw[rdL_keys];exact .tail _ (List.mem_append_right _ hk))
  rcases List.mem_append.1 hk with hk|hk
  ·rw[rdL_keys] at hk
   rcases List.mem_cons.1 hk with rfl|hk
   ·exact .inl (List.mem_append_left _ (by rw[rdL_keys];exact .head _))
   ·rcases List.mem_append.1 hk with hk|hk
    ·cases hk
    ·exact .inl (hnow k hk)
  ·rcases new_keys hk with h1|h1
   ·obtain⟨y,hy,rfl⟩:=List.mem_map.1 h1
    rcases hM.own y (.tail _ (List.mem_append_left _ hy)) (newL_flag y hy) with h2|h2
    ·exact .inl (List.mem_append_left _ (rdG_keys (V:=⟨zs,hs,zb,hb⟩) _ h2))
    ·exact .inr h2
   ·exact .inl (hnow k (ents_keys k h1))
/-! ### a new one -/
theorem new9_fs{Z:RFX}{qt:Int}(h0:64≤qt)(h1:qt≤1099511627776)(hh:Z.h=none)(hz:zs.map (·.1)=(In.new qt).nodes)(hsl:NodOK Z.x.s zs)(hnm: ∀ z∈zs,SlOK z.2 z.1.names.length (entC z.1.names) 2)(hl:zs.length≤1000000)(hA:At (rfC Z (Fs.new qt) zs []) w):RFs 1 Z (Fs.new qt) zs [] w:=
 ⟨⟨hA,hsl,hnm,hl,hz,by rw[hh];exact⟨rfl,rfl⟩,Nat.zero_le _⟩,Hs.like_nil,Nat.zero_le _,Ol.finv_new h0 h1⟩
theorem new9_perm{Z:RFX}{qt:Int}(hh:Z.h=none)(he:zs.flatMap NodV.ents=[]):(nodL Z.x.s zs).map unflag++[rfE Z 0,rE Z.x qt 2 zs.length]=(nodL Z.x.s zs).map unflag++[rfE Z 0,rE Z.x qt 2 zs.length]∧((nodL Z.x.s zs).map unflag++[rfE Z 0,rE Z.x qt 2 zs.length]).Perm (rfC Z (Fs.new qt) zs []):=by
 refine⟨rfl, ?_⟩
 have e:rfC Z (Fs.new qt) zs []=rfE Z 0::rE Z.x qt 2 zs.length::(nodL Z.x.s zs).map unflag:=by
  show rfE Z 0::(hndL Z.h []++rE Z.x qt (1+1) zs.length::(nodL Z.x.s zs++zs.flatMap NodV.ents).map unflag)=_
  rw[he,hh,List.append_nil]
  rfl
 rw[e]
 exact(perm_by (by intro _ x;simp only[List.append_eq,List.count_append,List.count_cons,List.count_nil,List.cons_append,List.nil_append];omega))
theorem rNew10_yes(qt:Int)(h0:64≤qt)(h1:qt≤1099511627776)(w0:World):Calls Tryz.prog 36 #[.int .i64 qt] w0 fun e w'=> ∃ X V,e= .returned (.tuple #[.pointer (some ⟨X.d,0,none⟩),.int .i64 0])∧RDs 1 X (Ol.new qt) V w'∧Below w0.heap.size w0 w'∧ ∀ k∈rdK X (Ol.new qt) V,w0.heap.size≤k:=by
 have hM:=St.start w0 []
 have HN:=qh (fun W=>rNew9_yes qt h0 h1 W)
 have HQ:=qh (And.intro h0 h1)
 clear h0 h1
 go_enter Tryz.func36,Tryz.ntmps36
 (repeat(first|(refine qW ?_;intros;rename_i hM)|(refine qMk ?_;clear hM;intro w bk hM)))
 (refine qK3 (fun R hR=> ?_))
 refine(HN.out _).mono ?_
 rintro e w' ⟨Z,zs,rfl,hh,hz,he,hst,hsl,hnm,hl⟩
 have hst2:St w0 [] w' (nodL Z.x.s zs++[rfE Z 0,rE Z.x qt 2 zs.length]):=by
  unfold rLF at hst
  rw[he] at hst
  exact hst.perm (by rw[List.map_nil,List.append_nil];exact(perm_by (by intro _ x;simp only[List.append_eq,List.count_append,List.count_cons,List.count_nil,List.cons_append,List.nil_append];omega)))
 have hst3:=hst2.unflagM.perm (new9_perm hh he).2
 have HZ:=qh (fun (W:World) (hA:At (rfC Z (Fs.new qt) zs []) W)=>new9_fs HQ.out.1 HQ.out.2 hh hz hsl hnm hl hA)
 have HF:=qh (fun (k:Nat) (hk:k∈keysOf (rfC Z (Fs.new qt) zs []))=>(show _≤k from by
  have h1:=((new9_perm (qt:=qt) hh he).2.map (·.1)).mem_iff.2 hk
  have e:((nodL Z.x.s zs).map unflag++[rfE Z 0,rE Z.x qt 2 zs.length]).map (·.1)=keysOf (nodL Z.x.s zs++[rfE Z 0,rE Z.x qt 2 zs.length]):=by
   unfold keysOf
   rw[List.map_append,List.map_append,List.map_map]
   rfl
  rw[e] at h1
  obtain⟨y,hy,rfl⟩:=List.mem_map.1 h1
  exact(hst2.own y hy (by
   rcases List.mem_append.1 hy with hy|hy
   ·exact slL_flag _ _ _ _ y hy
   ·simp only[List.mem_cons,List.not_mem_nil,or_false] at hy
    rcases hy with rfl|rfl<;> rfl)).resolve_left nofun))
 have hlt:=HF.out
 have hM2:St w0 [] w' (rfC Z (Fs.new qt) zs []):=by
  refine⟨hM.only.trans hst3.only,hst3.holds,hst3.nd,fun y hy h1=> .inr ?_⟩
  have:=hM.only.size
  have:=hlt y.1 (List.mem_map_of_mem hy)
  omega
 have HLT:=qh (fun (k:Nat) (hk:k∈keysOf (rfC Z (Fs.new qt) zs []))=>(show w0.heap.size≤k by have:=hM.only.size;have:=hlt k hk;omega))
 refine qho ?_;clear hR R hst hst2 hst3 hh hz he hsl hnm hl hM hlt HF
 have hM:=hM2
 clear hM2
 have HC:=qh (fun (W:World) (hA:At (rfC Z (Fs.new qt) zs []) W)=>rCloneF_any (HZ.out W hA))
 (refine qq ?_)
 (repeat(first|(refine qW ?_;intros;rename_i hM)|(refine qMk ?_;clear hM;intro w bk hM)))
 (refine qKx ?_;intro R hR)
 refine(HC.out _ hM.whole).mono ?_
 rintro e w' ⟨X',rfl,HX,hN⟩
 replace hM:=(hM.madeM hN newL_flag)
 refine qho ?_;clear hR R hN HC
 (refine qq ?_)
 (repeat(first|(refine qW ?_;intros;rename_i hM)|(refine qMk ?_;clear hM;intro w bk hM)))
 (refine qf ?_)
 have hnd:=hM.nd
 have hA:At (newL X' (Fs.new qt) zs []++rfC Z (Fs.new qt) zs []) w:=hM.forget.whole
 have hnow:=HZ.out w (hA.sub (List.sublist_append_right _ _))
 have hC:=At.cloned hnow hA
 have hNd:=hA.nd
 rw[keys_app,List.nodup_append] at hNd
 have hdn:bk∉keysOf (newL X' (Fs.new qt) zs [])∧bk∉keysOf (rfC Z (Fs.new qt) zs []):=by
  have h2:(bk::(keysOf (newL X' (Fs.new qt) zs [])++keysOf (rfC Z (Fs.new qt) zs []))).Nodup:=by
   rw[List.map_cons,List.map_append] at hnd
   exact hnd
  have h3:=(List.nodup_cons.1 h2).1
  exact⟨fun h=>h3 (List.mem_append_left _ h),fun h=>h3 (List.mem_append_right _ h)⟩
 have hbk:=(hM.own _ (.head _) rfl).resolve_left nofun
 have hnew: ∀ k∈keysOf (newL X' (Fs.new qt) zs []),w0.heap.size≤k:=fun k hk=>by
  obtain⟨y,hy,rfl⟩:=List.mem_map.1 hk
  exact(hM.own y (.tail _ (List.mem_append_left _ hy)) (newL_flag y hy)).resolve_left nofun
 have hE:At (rdL ⟨bk,Z,X',none⟩ (Ol.new qt) zs []) w:=hM.whole.sub (List.Sublist.cons_cons _ (List.sublist_append_right _ _))
 refine⟨⟨bk,Z,X',none⟩,⟨zs,[],zs,[]⟩,rfl,⟨hE,⟨rfl,rfl⟩,hnow,HX.out w hC,Ol.inv_new HQ.out.1 HQ.out.2,⟨Fs.legal_new qt,Fs.legal_new qt,nofun⟩,fun k hk hm=> ?_⟩,hM.only.to_below (Nat.le_refl _) nofun,fun k hk=> ?_⟩
 ·rcases new_keys hm with h1|h1
  ·rcases rdG_mem.1 hk with rfl|hk|hk
   ·exact hdn.1 h1
   ·cases hk
   ·exact hNd.2.2 k h1 k (rfG_keys k hk) rfl
  ·rcases rdG_mem.1 hk with rfl|hk|hk
   ·exact hdn.2 (ents_keys k h1)
   ·cases hk
   ·exact ents_own hnow k hk h1
 ·unfold rdK at hk
  rcases List.mem_append.1 hk with hk|hk
  ·rw[rdL_keys] at hk
   rcases List.mem_cons.1 hk with rfl|hk
   ·exact hbk
   ·rcases List.mem_append.1 hk with hk|hk
    ·cases hk
    ·exact HLT.out k hk
  ·rcases new_keys hk with h1|h1
   ·exact hnew k h1
   ·exact HLT.out k (ents_keys k h1)
theorem rNew10_no(qt:Int)(h:qt<64∨1099511627776<qt)(w0:World):An 36 #[.int .i64 qt] w0 (.tuple #[.pointer none,.int .i64 1]):=by
 have hM:=St.start w0 []
 have HN:=qh (fun W=>rNew9_no qt h W)
 clear h
 go_enter Tryz.func36,Tryz.ntmps36
 (refine qw ?_;intros;rename_i hM)
 (refine qCB (HN.out _) hM ?_;clear hM;intro w' hM)
 exact qwf
end
end
theorem qH6{p q:Prop}(k:q)(h:Hd q→p:=by
 intro q1k
 first|refine qD (id:=4) hM (Sub.take (Sub.take (Sub.take Sub.nil))) [3,5] [(0,0),(1,0),(2,0),(3,1),(4,0),(5,1),(6,4),(7,4),(8,3)] ?_|refine qD (id:=7) hM (Sub.all _) [4] [(0,0),(1,0),(2,0),(3,0),(4,1),(5,0),(6,2),(7,2),(8,2),(9,3),(10,3),(11,3),(12,3)] ?_|fail
 exact q1k.out):p:=h ⟨k⟩
section
open Go.RowKit Go.Maps
section
variable {w w' w0 w1 w2:World}{X X':RDX}{Z Z':RFX}{D D':DskD}{V V':RDV}{N M:Nat}{F F' G:List Nat}{L:List Ent}{d:FsD}{zs:List NodV}{hs:List HndD}
theorem RLaw.exit(I:Ol.Inv N D)(h:RLaw D)(o:Int):RLaw (Ol.exit D o):=by
 have hl:=Ol.lawful_exit (o:=o) I ⟨h.now,h.base⟩
 refine⟨hl.now,hl.base,fun l hm p hp=> ?_⟩
 unfold Ol.exit at hm
 split at hm
 ·rcases List.mem_append.1 hm with hm|hm
  ·exact h.sm l hm p hp
  ·rcases List.mem_singleton.1 hm with rfl
   cases hp
 ·exact h.sm l hm p hp
theorem RLaw.do_(I:Ol.Inv N D)(h:RLaw D)(o:Int){p:OpD}(hp:p.Sm):RLaw (Ol.do_ D o p).2:=by
 have hl:=Ol.lawful_do (o:=o) (p:=p) I ⟨h.now,h.base⟩
 refine⟨hl.now,hl.base,fun l hm q hq=> ?_⟩
 unfold Ol.do_ at hm
 split at hm
 ·cases hm
 ·unfold Ol.doN at hm
  simp only at hm
  split at hm
  ·rcases List.mem_append.1 hm with hm|hm
   ·exact h.sm l hm q hq
   ·rcases List.mem_singleton.1 hm with rfl
    cases hq
    exact hp
  ·exact h.sm l hm q hq
theorem St.appNil{a b c:Ent}{A B:List Ent}(hM:St w0 F w (a::b::c::(A++B))):St w0 F w ((a::b::c::A)++(B++[])):=by rw[List.append_nil];exact hM
theorem St.again(hM:St w0 F w L)(hF: ∀ y∈L,y.2.1=true→y.1∈F'):St w F' w L:=⟨Only.refl _ w,hM.holds,hM.nd,fun y hy h1=> .inl (hF y hy h1)⟩
theorem logs_snoc(l:List LogD)(z:LogD):l.flatMap logC++logC z=(l++[z]).flatMap logC:=by rw[List.flatMap_append,List.flatMap_singleton]
theorem log_len(h:RDs N X D V w):D.log.length≤N:=by obtain⟨K,-,h2⟩:=h.inv.base;omega
theorem RDs.on{W:World}(h:RDs N X D V w0)(hA:At (rdL X D V.zs V.hs) W)(ho:Only (rdG X D V.hs) w0 W):RDs N X D V W:=
 ⟨hA,h.lok,h.now.at_ (hA.sub (by unfold rdL;exact(List.sublist_append_right _ _).cons _)),h.base.only ho fun k hk hm=>h.apart k hm hk,h.inv,h.law,h.apart⟩
theorem RDTo.wrap{W:World}(h:RDs M X D V w0)(ho:Only (rdG X D V.hs) w0 W)(hto:RDTo N X D V X' D' V' W w1)(hS:Only F' w1 w')(hF: ∀ k∈F',w0.heap.size≤k∧k<W.heap.size):RDTo N X D V X' D' V' w0 w':=by
 have hsz:=ho.size
 refine⟨hto.d,hto.is.only hS (fun k hk hm=> ?_),(ho.trans hto.only).then hS (fun k hk=> .inr (hF k hk).1),(fun k hk=>(hto.own k hk).imp id (Nat.le_trans hsz)),(fun k hk=>(hto.grow k hk).imp id (Nat.le_trans hsz))⟩
 have h1:=hF k hm
 rcases hto.grow k hk with h3|h3
 ·have:=h.lt k h3
  omega
 ·omega
theorem St.aside{A:List Ent}(hM:St w0 (rdG X D V.hs) w (A++rdL X D V.zs V.hs))(hA:flagged A): ∀ k∈keysOf A,w0.heap.size≤k∧k<w.heap.size:=fun k hk=>by
 have hnd:=hM.nd
 rw[List.map_append,List.nodup_append] at hnd
 obtain⟨y,hy,rfl⟩:=List.mem_map.1 hk
 refine⟨(hM.own y (List.mem_append_left _ hy) (hA y hy)).resolve_left (fun h1=>hnd.2.2 _ hk _ (rdG_keys (V:=V) _ h1) rfl),hM.lt (List.mem_append_left _ hy)⟩
theorem St.asideM{A:List Ent}(hM:St w0 (rdG X D V.hs) w (A++rdL X D V.zs V.hs))(ho:Only (rdG X D V.hs) w w'):St w' (keysOf A) w' A:=by
 have hnd:=hM.nd
 rw[List.map_append,List.nodup_append] at hnd
 exact((hM.whole.sub (List.sublist_append_left _ _)).only ho (fun k hk h1=>hnd.2.2 _ hk _ (rdG_keys (V:=V) _ h1) rfl)).st
theorem rExit10_any(h:RDs N X D V w0)(hN:N≤800000){o:Int}(ho:Fits o):Calls Tryz.prog 38 #[.pointer (some ⟨X.d,0,none⟩),.int .i64 o] w0 fun e w'=>e= .returned (.tuple #[])∧ ∃ X' V',RDTo (N+3) X D V X' (Ol.exit D o) V' w0 w':=by
 have hM:=h.st
 have hlog:=log_len h
 obtain⟨xd,xn,xb,xs⟩:=X
 obtain⟨zs,hs,zb,hb⟩:=V
 obtain⟨va,vc,hv,-⟩:=slV_open h.lok
 unfold rdL rdE at hM
 simp only at hM hv
 rw[hv] at hM
 have HOS:=qh (fun (W:World) (hA:At (rfC xn D.now zs hs) W)=>rOwners_any (h.now.at_ hA).is)
 have HEX:=qh (fun (W:World) (hA:At (rfC xn D.now zs hs) W)=>rExit9_any (h.now.at_ hA) (by omega) ho)
 have e:=Hs.owners_eq h.now.inv.inv h.now.like
 rw[e] at HOS
 clear e
 have HH:=qh h
 have HV:=qh hv
 have HK:=qh h.lok
 have hol:(Fs.owners D.now).length≤900000:=by
  have:=h.inv.now.inv.len
  unfold Fs.owners
  rw[List.length_map]
  omega
 obtain⟨os,hos⟩: ∃ os,Fs.owners D.now=os:=⟨_,rfl⟩
 rw[hos] at HOS hol
 have HS:=qh hos
 have HO:=qh ho
 clear h hv hos ho
 go_enter Tryz.func38,Tryz.ntmps38
 (refine qw ?_;intros;rename_i hM)
 (refine qKx ?_;intro R hR)
 refine(HOS.out _ (hM.part (Part.skip (Part.past Part.all)))).mono ?_
 rintro e w' ⟨s,rfl,hok,hst⟩
 replace hM:=hM.madeM hst (slL_flag _ _ _ _)
 refine qho ?_;clear hR R hst HOS
 obtain⟨ua,uc,hu,hua⟩:=slV_open hok
 have HOK:=qh hok
 rw[hu]
 clear hok hu
 (refine qq ?_)
 (refine qw ?_;intros;rename_i hM)
 go_loopw [5] (fun i wr=> ∃ k:Nat,k≤os.length∧i= .int .i64 k∧Hid (∀ (j:Nat) (v:Int),j<k→os[j]? =some v→v≠o)∧St w0 (rdG ⟨xd,xn,xb,xs⟩ D hs) wr (slL s (os.map (Value.int .i64)) 3 1++((xd,true,.cells [.pointer (some ⟨xn.f,0,none⟩),.pointer (some ⟨xb.f,0,none⟩),.slice va D.log.length vc] 72)::(lgL xs D.log++rfC xn D.now zs hs)))) (fun i _=>os.length - (intOf i).toNat)
 case atStart=>exact⟨0,by omega,rfl,qh (fun j v hj=>by omega),hM⟩
 case round=>
  clear hM
  obtain⟨k,hk,rfl,HB,hM⟩:=hrel
  by_cases hlt:k<os.length
  ·obtain⟨v,hvk⟩:=get_at hlt
   have k1:(k:Int)<(os.length:Int):=by omega
   rcases s with _|⟨g2,cap2⟩
   ·exact absurd HOK.out.2 (by omega)
   obtain⟨rfl,rfl⟩:=hua g2 cap2 rfl
   have hx':(os.map (Value.int .i64))[k]? =some (.int .i64 v):=by rw[List.getElem?_map,hvk];rfl
   simp only[slL,List.cons_append,List.nil_append] at hM
   by_cases hvo:v=o
   ·subst hvo
    have HMEM:=qh (List.mem_of_getElem? hvk)
    clear hvk hlt
    (refine qw ?_;intros;rename_i hM)
    (refine qKx ?_;intro R hR)
    refine(HEX.out _ (hM.part (Part.skip (Part.skip (Part.past Part.all))))).mono ?_
    rintro e w' ⟨rfl,X2,zs2,hs2,hto⟩
    have HSZ:=qh hM.only.size
    replace hM:=hM.backG (Swap.skip (Swap.skip (Swap.past Swap.all))) hto.st rfG_mem hto.grow
    refine qho ?_;clear hR R HEX
    have HTO:=qh hto
    clear hto
    (refine qq ?_)
    (refine qw ?_;intros;rename_i hM)
    rw[←HV.out]
    refine St.append (s:=xs) (n:=D.log.length) (xs:=D.log.flatMap logC) rfl hM rfl rfl rfl rfl rfl (by kernel_rfl) qsf HK.out rfl (hM.news qm) rfl (by rw[maxLen_val];omega) (by omega) (fun h=>by cases h) ?_
    clear hM;intro w s2 hM hk2 _
    have e1:D.log.flatMap logC++[.int .i64 v,.bool true,.int .i64 0,.string ⟨#[]⟩,.string ⟨#[]⟩,.int .i64 0,.int .i64 0,.int .i64 0,.string ⟨#[]⟩,.int .i64 0,.int .i64 0]=(D.log++[((v,none):LogD)]).flatMap logC:=logs_snoc D.log (v,none)
    have e2:D.log.length+1=(D.log++[((v,none):LogD)]).length:=by simp
    simp only[Res.known] at hM hk2
    rw[e1] at hM hk2
    rw[e2] at hk2 ⊢
    have HK2:=qh hk2
    obtain⟨ub,ud,hu2,-⟩:=slV_open hk2
    have HU2:=qh hu2
    rw[hu2]
    clear e1 e2 hk2 hu2
    (refine qq ?_)
    (refine qw ?_;intros;rename_i hM)
    (refine qf ?_)
    have h:=HH.out
    have hEx:Ol.exit D v=⟨Fs.exit D.now v,D.base,D.log++[(v,none)]⟩:=if_pos (by rw[HS.out];exact HMEM.out)
    have hI:=Ol.inv_exit h.inv HO.out
    have hL:=h.law.exit h.inv v
    rw[hEx] at hI hL ⊢
    rename World=>w
    have hE:St w0 (rdG ⟨xd,xn,xb,xs⟩ D hs) w (rdL ⟨xd,X2,xb,s2⟩ ⟨Fs.exit D.now v,D.base,D.log++[(v,none)]⟩ zs2 hs2):=by
     unfold rdL rdE
     simp only
     rw[HU2.out,HTO.out.f]
     exact hM.forget.forget
    refine⟨rfl,⟨xd,X2,xb,s2⟩,⟨zs2,hs2,zb,hb⟩,hE.rdTo2 h rfl HK2.out (fun hA=>(HTO.out.fs.at_ hA).more (by omega)) hI hL (by omega) rfl rfl rfl rfl (fun k hk=> ?_)⟩
    rcases HTO.out.grow k hk with h1|h1
    ·exact .inl (List.mem_append_left _ (by rw[rdL_keys];exact .tail _ (List.mem_append_right _ h1)))
    ·exact .inr (Nat.le_trans HSZ.out h1)
   ·have q1:(v==o)=false:=qne.2 hvo
    have HB2:=qh (show ∀ (j:Nat) (u:Int),j<k+1→os[j]? =some u→u≠o from fun j u hj hu=>by
     by_cases hjk:j<k
     ·exact HB.out j u hjk hu
     ·obtain rfl:j=k:=by omega
      rw[hvk] at hu
      cases hu
      exact hvo)
    clear hvk hlt hvo
    (refine qw ?_;intros;rename_i hM)
    (try simp only[Exit.then])
    (refine⟨?_,qio⟩;repeat(first|exact⟨⟨k+1,by omega,rfl,HB2,hM⟩,rfl⟩|apply Exists.intro))
  ·have k0:¬((k:Int)<(os.length:Int)):=by omega
   have HNM:=qh (show o∉os from fun hm=>by
    obtain⟨j,hj,e⟩:=List.getElem_of_mem hm
    exact HB.out j o (by omega) (by rw[List.getElem?_eq_getElem hj,e]) rfl)
   clear hlt hk
   (refine qw ?_;intros;rename_i hM)
   (refine qf ?_)
   have h:=HH.out
   have hEx:Ol.exit D o=D:=if_neg (by rw[HS.out];exact HNM.out)
   rw[hEx]
   have hE:St w0 (rdG ⟨xd,xn,xb,xs⟩ D hs) wr (rdL ⟨xd,xn,xb,xs⟩ D zs hs):=by
    unfold rdL rdE
    simp only
    rw[HV.out]
    exact hM.subM (List.sublist_append_right _ _)
   refine⟨rfl,⟨xd,xn,xb,xs⟩,⟨zs,hs,zb,hb⟩,hE.rdTo2 h rfl HK.out (fun hA=>(h.now.at_ hA).more (by omega)) (h.inv.more (by omega)) h.law (by omega) rfl rfl rfl rfl (fun k hk=> ?_)⟩
   exact .inl (List.mem_append_left _ (by rw[rdL_keys];exact .tail _ (List.mem_append_right _ hk)))
def RDAns(N:Nat)(X:RDX)(D:DskD)(V:RDV)(w:World)(r:ResD×DskD)(e:Ending)(w':World):Prop:=
 ∃ s X' V',e= .returned (.agg #[.int .i64 r.1.err,.int .i64 r.1.n,.string r.1.data,slV s r.1.names.length])∧TxOK s r.1.names∧At (txL s r.1.names) w'∧(∀ k∈keysOf (txL s r.1.names),w.heap.size≤k∧k∉rdK X' r.2 V')∧RDTo N X D V X' r.2 V' w w'
theorem rDo10_sync(h:RDs N X D V w0)(o:Int)(p:OpD)(hk:p.kind=14):Calls Tryz.prog 39 #[.pointer (some ⟨X.d,0,none⟩),.int .i64 o,.agg p.cells.toArray] w0 (RDAns N X D V w0 (Ol.do_ D o p)):=by
 have hM:=h.st
 have e1:Ol.do_ D o p=(Fs.errR 0,Ol.sync D):=if_pos hk
 rw[e1]
 obtain⟨pk,pp,pd,ph,pa,pn,px,py,pb⟩:=p
 simp only[OpD.cells] at hk ⊢
 subst hk
 have HC:=qh (fun (W:World) (hA:At (rdL X D V.zs V.hs) W) (ho:Only (rdG X D V.hs) w0 W)=>rsync_any (h.on hA ho))
 have HH:=qh h
 clear h e1
 go_enter Tryz.func39,Tryz.ntmps39
 (repeat(first|(refine qW ?_;clear hM;intros;rename_i hM)|(first|((refine qMk ?_);clear hM;intro w bk hM)|((refine qAA hM ?_);clear hM;intro w bk bk' hM))))
 (refine qK3 (fun R hR=> ?_))
 refine(HC.out _ (hM.part (Part.skip (Part.skip Part.all))) hM.only).mono ?_
 rintro e w' ⟨rfl,X',V',hto⟩
 have HOW:=qh hM.only
 have HAS:=qh (St.aside (A:=[_,_]) hM (fun y hy=>by
  simp only[List.mem_cons,List.not_mem_nil,or_false] at hy
  rcases hy with rfl|rfl<;> rfl))
 have hM2:=St.asideM (A:=[_,_]) hM hto.only
 refine qho ?_;clear hR R hM HC
 have HTO:=qh hto
 have hM:=hM2
 clear hM2 hto
 (refine qq ?_)
 (repeat(first|(refine qW ?_;clear hM;intros;rename_i hM)|(first|((refine qMk ?_);clear hM;intro w bk hM)|((refine qAA hM ?_);clear hM;intro w bk bk' hM))))
 (refine qf ?_)
 exact⟨none,X',V',rfl,⟨rfl,rfl⟩,⟨nofun,List.nodup_nil⟩,nofun,HTO.out.wrap HH.out HOW.out hM.only HAS.out⟩
theorem St.beTx{s:Option (Nat×Nat)}{ns:List ByteArray}{Q:List Ent}(hM:St w0 G w Q)(hA:At (txL s ns) w)(hf: ∀ k∈keysOf (txL s ns),w0.heap.size≤k∧k∉keysOf Q):St w0 G w (txL s ns++Q):=by
 refine⟨hM.only,fun y hy=>(List.mem_append.1 hy).elim (hA.has y) (hM.holds y), ?_,fun y hy h1=>(List.mem_append.1 hy).elim (fun h2=> .inr (hf _ (List.mem_map_of_mem h2)).1) (fun h2=>hM.own y h2 h1)⟩
 show(keysOf (txL s ns++Q)).Nodup
 rw[keys_app,List.nodup_append]
 exact⟨hA.nd,hM.nd,fun x hx y hy e=>(hf x hx).2 (e▸hy)⟩
theorem rDo10_k(h:RDs N X D V w0)(hN:N≤800000){o:Int}(ho:Fits o)(p:OpD)(hp:p.Sm)(hpo:p.Ok)(hk:p.kind=6∨p.kind=9∨p.kind=13){q:Bool}(he:((Fs.do_ D.now o p).1.err==0)=q):Calls Tryz.prog 39 #[.pointer (some ⟨X.d,0,none⟩),.int .i64 o,.agg p.cells.toArray] w0 (RDAns (N+3) X D V w0 (Ol.do_ D o p)):=by
 have hM:=h.st
 have hlog:=log_len h
 have hI:=Ol.inv_do h.inv (by omega) ho hpo
 have hL:=h.law.do_ h.inv o hp
 have e1:Ol.do_ D o p=((Fs.do_ D.now o p).1,Ol.doN D o p):=if_neg (by omega)
 rw[e1] at hI hL ⊢
 simp only at hI hL
 have e2:Ol.doN D o p=⟨(Fs.do_ D.now o p).2,D.base,D.log⟩:=by show DskD.mk _ _ _=_;rw[if_neg (fun h=>by obtain⟨-,g1,g2,g3⟩:=h;omega)]
 rw[e2] at hI hL ⊢
 obtain⟨xd,xn,xb,xs⟩:=X
 obtain⟨zs,hs,zb,hb⟩:=V
 obtain⟨va,vc,hv,-⟩:=slV_open h.lok
 unfold rdL rdE at hM
 simp only at hM hv
 rw[hv] at hM
 have HC:=qh (fun (W:World) (hA:At (rfC xn D.now zs hs) W)=>rDo9_any (h.now.at_ hA) (by omega) ho p hp)
 have HH:=qh h
 have HV:=qh hv
 have HK:=qh h.lok
 have HI:=qh hI
 have HL:=qh hL
 obtain⟨G,hG⟩: ∃ G,Fs.do_ D.now o p=G:=⟨_,rfl⟩
 rw[hG] at HC HI HL he ⊢
 obtain⟨⟨er,n,da,ns⟩,d'⟩:=G
 obtain⟨p',hp'⟩: ∃ p',p=p':=⟨_,rfl⟩
 have HP':=qh hp'
 obtain⟨pk,pp,pd,ph,pa,pn,px,py,pb⟩:=p
 simp only[OpD.cells] at HC he hk ⊢
 have q0:(er==0)=q:=he
 clear he
 clear h hv hI hL e1 e2 hp hpo hG hp'
 rcases hk with hk|hk|hk<;> cases q
 all_goals as_aux_lemma=>
  subst hk
  go_enter Tryz.func39,Tryz.ntmps39
  (repeat(first|(refine qW0 ?_;clear hM;intros;rename_i hM)|(first|((refine qMk ?_);clear hM;intro w bk hM)|((refine qAA hM ?_);clear hM;intro w bk bk' hM))|((refine qH6 ?_);clear hM;intro w hM Kr hKr)))
  have hM2:=hM.appNil
  have HSZ:=qh hM.only.size
  refine St.callAllocG (M:=rfC xn D.now zs hs) (G:=rfG xn hs) (R:=fun W w1 v M'=> ∃ s X2 zs2 hs2,v= .agg #[.int .i64 er,.int .i64 n,.string da,slV s ns.length]∧TxOK s ns∧RFsTo (N+3) xn D.now zs hs d' X2 zs2 hs2 W w1∧(∀ k∈keysOf (txL s ns),W.heap.size≤k)∧M'=txL s ns++rfC X2 d' zs2 hs2) rfl rfl hM2 rfl rfl (fun d h=>by cases h;decide) (by kernel_rfl) (by simp only[Act.put,qSa,qSz,qSs,List.map_toArray,List.map_cons,List.map_nil,Act.eval,getD_lit,qGz,qGs]<;> rfl) (fun p=>(by simp only[Act.put,qSa,qSz,qSs,List.map_toArray,List.map_cons,List.map_nil,Act.eval,getD_lit,qGz,qGs]<;> rfl)) rfl (by first|exact Sub.all _|exact Sub.nil|repeat(first|exact Sub.nil|apply Sub.take)) rfG_mem (fun W hW=> ?_) ?_
  ·refine(HC.out W (hW.part (.past .here))).mono ?_
   rintro e w' ⟨s,X2,zs2,hs2,rfl,hs,hA,hf,hto⟩
   refine⟨_,_,⟨s,X2,zs2,hs2,rfl,hs,hto,(fun k hk=>(hf k hk).1),rfl⟩,rfl,fun k hk=> ?_,hto.st.beTx hA hf⟩
   rw[keys_app] at hk
   rcases List.mem_append.1 hk with hk|hk
   ·exact .inr (hf k hk).1
   ·exact hto.grow k hk
  clear hM hM2
  rintro W w1 w bk v M' hWs ⟨s,X2,zs2,hs2,rfl,hs,hto,hfr,rfl⟩ hM
  obtain⟨sa,sc,hsv,-⟩:=slV_open hs
  rw[hsv]
  have HS:=qh hs
  have HSV:=qh hsv
  have HTO:=qh hto
  have HFR:=qh hfr
  have HWS:=qh (Nat.le_trans HSZ.out hWs)
  clear hs hsv hto hWs hfr
  rw[List.append_nil] at hM
  simp only[List.cons_append] at hM
  generalize bk=ab at*
  (refine qq ?_)
  (repeat(first|(refine qW ?_;clear hM;intros;rename_i hM)|(first|((refine qMk ?_);clear hM;intro w bk hM)|((refine qAA hM ?_);clear hM;intro w bk bk' hM))))
  (refine qf ?_)
  have h:=HH.out
  rename World=>w
  have hS:St w0 (rdG ⟨xd,xn,xb,xs⟩ D hs) w (txL s ns++rdL ⟨xd,X2,xb,xs⟩ ⟨d',D.base,D.log⟩ zs2 hs2):=by
   unfold rdL rdE
   simp only
   rw[HV.out,HTO.out.f]
   exact hM.forget.forget.forget.perm (perm_by (by intro _ x;simp only[List.append_eq,List.count_append,List.count_cons,List.count_nil,List.cons_append,List.nil_append];omega))
  have hnd:=hS.nd
  rw[List.map_append,List.nodup_append] at hnd
  rename World=>w
  have hE:St w0 (rdG ⟨xd,xn,xb,xs⟩ D hs) w (rdL ⟨xd,X2,xb,xs⟩ ⟨d',D.base,D.log⟩ zs2 hs2):=hS.subM (List.sublist_append_right _ _)
  refine⟨s,⟨xd,X2,xb,xs⟩,⟨zs2,hs2,zb,hb⟩,by rw[HSV.out];rfl,HS.out,hS.whole.sub (List.sublist_append_left _ _),fun k hk=> ?_,hE.rdTo2 h rfl HK.out (fun hA=>HTO.out.fs.at_ hA) HI.out HL.out (by omega) rfl rfl rfl rfl (fun k hk=> ?_)⟩
  ·obtain⟨y,hy,rfl⟩:=List.mem_map.1 hk
   have h1:w0.heap.size≤y.1:=(hS.own y (List.mem_append_left _ hy) (txL_flag _ _ y hy)).resolve_left fun h2=>by
    have h3:=rdG_keys (V:=⟨zs,hs,zb,hb⟩) _ h2
    have h4:=h.lt y.1 (List.mem_append_left _ h3)
    exact absurd (HFR.out _ hk) (by have:=HWS.out;omega)
   refine⟨h1,fun h2=> ?_⟩
   rcases List.mem_append.1 h2 with h2|h2
   ·exact hnd.2.2 _ hk _ h2 rfl
   ·have:=h.lt y.1 (List.mem_append_right _ h2)
    omega
  ·rcases HTO.out.grow k hk with h1|h1
   ·exact .inl (List.mem_append_left _ (by rw[rdL_keys];exact .tail _ (List.mem_append_right _ h1)))
   ·exact .inr (Nat.le_trans HWS.out h1)
theorem rDo10_oe(h:RDs N X D V w0)(hN:N≤800000){o:Int}(ho:Fits o)(p:OpD)(hp:p.Sm)(hpo:p.Ok)(h14:p.kind≠14)(h6:p.kind≠6)(h9:p.kind≠9)(h13:p.kind≠13)(he:(Fs.do_ D.now o p).1.err≠0):Calls Tryz.prog 39 #[.pointer (some ⟨X.d,0,none⟩),.int .i64 o,.agg p.cells.toArray] w0 (RDAns (N+3) X D V w0 (Ol.do_ D o p)):=by
 have hM:=h.st
 have hlog:=log_len h
 have hI:=Ol.inv_do h.inv (by omega) ho hpo
 have hL:=h.law.do_ h.inv o hp
 have e1:Ol.do_ D o p=((Fs.do_ D.now o p).1,Ol.doN D o p):=if_neg (by omega)
 rw[e1] at hI hL ⊢
 simp only at hI hL
 have e2:Ol.doN D o p=⟨(Fs.do_ D.now o p).2,D.base,D.log⟩:=by show DskD.mk _ _ _=_;rw[if_neg (fun h=>he h.1)]
 rw[e2] at hI hL ⊢
 obtain⟨xd,xn,xb,xs⟩:=X
 obtain⟨zs,hs,zb,hb⟩:=V
 obtain⟨va,vc,hv,-⟩:=slV_open h.lok
 unfold rdL rdE at hM
 simp only at hM hv
 rw[hv] at hM
 have HC:=qh (fun (W:World) (hA:At (rfC xn D.now zs hs) W)=>rDo9_any (h.now.at_ hA) (by omega) ho p hp)
 have HH:=qh h
 have HV:=qh hv
 have HK:=qh h.lok
 have HI:=qh hI
 have HL:=qh hL
 obtain⟨G,hG⟩: ∃ G,Fs.do_ D.now o p=G:=⟨_,rfl⟩
 rw[hG] at HC HI HL he ⊢
 obtain⟨⟨er,n,da,ns⟩,d'⟩:=G
 obtain⟨p',hp'⟩: ∃ p',p=p':=⟨_,rfl⟩
 have HP':=qh hp'
 obtain⟨pk,pp,pd,ph,pa,pn,px,py,pb⟩:=p
 simp only[OpD.cells] at HC he h14 h6 h9 h13 ⊢
 have b6:=qne.2 h6
 have b9:=qne.2 h9
 have b13:=qne.2 h13
 have b14:=qne.2 h14
 clear h6 h9 h13 h14
 have q0:(er==0)=false:=qne.2 he
 clear he
 clear h hv hI hL e1 e2 hp hpo hG hp'
 go_enter Tryz.func39,Tryz.ntmps39
 (repeat(first|(refine qW0 ?_;clear hM;intros;rename_i hM)|(first|((refine qMk ?_);clear hM;intro w bk hM)|((refine qAA hM ?_);clear hM;intro w bk bk' hM))|((refine qH6 ?_);clear hM;intro w hM Kr hKr)))
 have hM2:=hM.appNil
 have HSZ:=qh hM.only.size
 refine St.callAllocG (M:=rfC xn D.now zs hs) (G:=rfG xn hs) (R:=fun W w1 v M'=> ∃ s X2 zs2 hs2,v= .agg #[.int .i64 er,.int .i64 n,.string da,slV s ns.length]∧TxOK s ns∧RFsTo (N+3) xn D.now zs hs d' X2 zs2 hs2 W w1∧(∀ k∈keysOf (txL s ns),W.heap.size≤k)∧M'=txL s ns++rfC X2 d' zs2 hs2) rfl rfl hM2 rfl rfl (fun d h=>by cases h;decide) (by kernel_rfl) (by simp only[Act.put,qSa,qSz,qSs,List.map_toArray,List.map_cons,List.map_nil,Act.eval,getD_lit,qGz,qGs]<;> rfl) (fun p=>(by simp only[Act.put,qSa,qSz,qSs,List.map_toArray,List.map_cons,List.map_nil,Act.eval,getD_lit,qGz,qGs]<;> rfl)) rfl (by first|exact Sub.all _|exact Sub.nil|repeat(first|exact Sub.nil|apply Sub.take)) rfG_mem (fun W hW=> ?_) ?_
 ·refine(HC.out W (hW.part (.past .here))).mono ?_
  rintro e w' ⟨s,X2,zs2,hs2,rfl,hs,hA,hf,hto⟩
  refine⟨_,_,⟨s,X2,zs2,hs2,rfl,hs,hto,(fun k hk=>(hf k hk).1),rfl⟩,rfl,fun k hk=> ?_,hto.st.beTx hA hf⟩
  rw[keys_app] at hk
  rcases List.mem_append.1 hk with hk|hk
  ·exact .inr (hf k hk).1
  ·exact hto.grow k hk
 clear hM hM2
 rintro W w1 w bk v M' hWs ⟨s,X2,zs2,hs2,rfl,hs,hto,hfr,rfl⟩ hM
 obtain⟨sa,sc,hsv,-⟩:=slV_open hs
 rw[hsv]
 have HS:=qh hs
 have HSV:=qh hsv
 have HTO:=qh hto
 have HFR:=qh hfr
 have HWS:=qh (Nat.le_trans HSZ.out hWs)
 clear hs hsv hto hWs hfr
 rw[List.append_nil] at hM
 simp only[List.cons_append] at hM
 generalize bk=ab at*
 (refine qq ?_)
 (repeat(first|(refine qW ?_;clear hM;intros;rename_i hM)|(first|((refine qMk ?_);clear hM;intro w bk hM)|((refine qAA hM ?_);clear hM;intro w bk bk' hM))))
 (refine qf ?_)
 have h:=HH.out
 rename World=>w
 have hS:St w0 (rdG ⟨xd,xn,xb,xs⟩ D hs) w (txL s ns++rdL ⟨xd,X2,xb,xs⟩ ⟨d',D.base,D.log⟩ zs2 hs2):=by
  unfold rdL rdE
  simp only
  rw[HV.out,HTO.out.f]
  exact hM.forget.forget.forget.perm (perm_by (by intro _ x;simp only[List.append_eq,List.count_append,List.count_cons,List.count_nil,List.cons_append,List.nil_append];omega))
 have hnd:=hS.nd
 rw[List.map_append,List.nodup_append] at hnd
 rename World=>w
 have hE:St w0 (rdG ⟨xd,xn,xb,xs⟩ D hs) w (rdL ⟨xd,X2,xb,xs⟩ ⟨d',D.base,D.log⟩ zs2 hs2):=hS.subM (List.sublist_append_right _ _)
 refine⟨s,⟨xd,X2,xb,xs⟩,⟨zs2,hs2,zb,hb⟩,by rw[HSV.out];rfl,HS.out,hS.whole.sub (List.sublist_append_left _ _),fun k hk=> ?_,hE.rdTo2 h rfl HK.out (fun hA=>HTO.out.fs.at_ hA) HI.out HL.out (by omega) rfl rfl rfl rfl (fun k hk=> ?_)⟩
 ·obtain⟨y,hy,rfl⟩:=List.mem_map.1 hk
  have h1:w0.heap.size≤y.1:=(hS.own y (List.mem_append_left _ hy) (txL_flag _ _ y hy)).resolve_left fun h2=>by
   have h3:=rdG_keys (V:=⟨zs,hs,zb,hb⟩) _ h2
   have h4:=h.lt y.1 (List.mem_append_left _ h3)
   exact absurd (HFR.out _ hk) (by have:=HWS.out;omega)
  refine⟨h1,fun h2=> ?_⟩
  rcases List.mem_append.1 h2 with h2|h2
  ·exact hnd.2.2 _ hk _ h2 rfl
  ·have:=h.lt y.1 (List.mem_append_right _ h2)
   omega
 ·rcases HTO.out.grow k hk with h1|h1
  ·exact .inl (List.mem_append_left _ (by rw[rdL_keys];exact .tail _ (List.mem_append_right _ h1)))
  ·exact .inr (Nat.le_trans HWS.out h1)
theorem rDo10_o(h:RDs N X D V w0)(hN:N≤800000){o:Int}(ho:Fits o)(p:OpD)(hp:p.Sm)(hpo:p.Ok)(h14:p.kind≠14)(h6:p.kind≠6)(h9:p.kind≠9)(h13:p.kind≠13)(he:(Fs.do_ D.now o p).1.err=0):Calls Tryz.prog 39 #[.pointer (some ⟨X.d,0,none⟩),.int .i64 o,.agg p.cells.toArray] w0 (RDAns (N+3) X D V w0 (Ol.do_ D o p)):=by
 have hM:=h.st
 have hlog:=log_len h
 have hI:=Ol.inv_do h.inv (by omega) ho hpo
 have hL:=h.law.do_ h.inv o hp
 have e1:Ol.do_ D o p=((Fs.do_ D.now o p).1,Ol.doN D o p):=if_neg (by omega)
 rw[e1] at hI hL ⊢
 simp only at hI hL
 have e2:Ol.doN D o p=⟨(Fs.do_ D.now o p).2,D.base,D.log++[(o,some p)]⟩:=by show DskD.mk _ _ _=_;rw[if_pos ⟨he,h6,h9,h13⟩]
 rw[e2] at hI hL ⊢
 obtain⟨xd,xn,xb,xs⟩:=X
 obtain⟨zs,hs,zb,hb⟩:=V
 obtain⟨va,vc,hv,-⟩:=slV_open h.lok
 unfold rdL rdE at hM
 simp only at hM hv
 rw[hv] at hM
 have HC:=qh (fun (W:World) (hA:At (rfC xn D.now zs hs) W)=>rDo9_any (h.now.at_ hA) (by omega) ho p hp)
 have HH:=qh h
 have HV:=qh hv
 have HK:=qh h.lok
 have HI:=qh hI
 have HL:=qh hL
 obtain⟨G,hG⟩: ∃ G,Fs.do_ D.now o p=G:=⟨_,rfl⟩
 rw[hG] at HC HI HL he ⊢
 obtain⟨⟨er,n,da,ns⟩,d'⟩:=G
 obtain⟨p',hp'⟩: ∃ p',p=p':=⟨_,rfl⟩
 have HP':=qh hp'
 obtain⟨pk,pp,pd,ph,pa,pn,px,py,pb⟩:=p
 simp only[OpD.cells] at HC he h14 h6 h9 h13 ⊢
 have b6:=qne.2 h6
 have b9:=qne.2 h9
 have b13:=qne.2 h13
 have b14:=qne.2 h14
 clear h6 h9 h13 h14
 have q0:(er==0)=true:=beq_iff_eq.2 he
 clear he
 clear h hv hI hL e1 e2 hp hpo hG hp'
 go_enter Tryz.func39,Tryz.ntmps39
 (repeat(first|(refine qW0 ?_;clear hM;intros;rename_i hM)|(first|((refine qMk ?_);clear hM;intro w bk hM)|((refine qAA hM ?_);clear hM;intro w bk bk' hM))|((refine qH6 ?_);clear hM;intro w hM Kr hKr)))
 have hM2:=hM.appNil
 have HSZ:=qh hM.only.size
 refine St.callAllocG (M:=rfC xn D.now zs hs) (G:=rfG xn hs) (R:=fun W w1 v M'=> ∃ s X2 zs2 hs2,v= .agg #[.int .i64 er,.int .i64 n,.string da,slV s ns.length]∧TxOK s ns∧RFsTo (N+3) xn D.now zs hs d' X2 zs2 hs2 W w1∧(∀ k∈keysOf (txL s ns),W.heap.size≤k)∧M'=txL s ns++rfC X2 d' zs2 hs2) rfl rfl hM2 rfl rfl (fun d h=>by cases h;decide) (by kernel_rfl) (by simp only[Act.put,qSa,qSz,qSs,List.map_toArray,List.map_cons,List.map_nil,Act.eval,getD_lit,qGz,qGs]<;> rfl) (fun p=>(by simp only[Act.put,qSa,qSz,qSs,List.map_toArray,List.map_cons,List.map_nil,Act.eval,getD_lit,qGz,qGs]<;> rfl)) rfl (by first|exact Sub.all _|exact Sub.nil|repeat(first|exact Sub.nil|apply Sub.take)) rfG_mem (fun W hW=> ?_) ?_
 ·refine(HC.out W (hW.part (.past .here))).mono ?_
  rintro e w' ⟨s,X2,zs2,hs2,rfl,hs,hA,hf,hto⟩
  refine⟨_,_,⟨s,X2,zs2,hs2,rfl,hs,hto,(fun k hk=>(hf k hk).1),rfl⟩,rfl,fun k hk=> ?_,hto.st.beTx hA hf⟩
  rw[keys_app] at hk
  rcases List.mem_append.1 hk with hk|hk
  ·exact .inr (hf k hk).1
  ·exact hto.grow k hk
 clear hM hM2
 rintro W w1 w bk v M' hWs ⟨s,X2,zs2,hs2,rfl,hs,hto,hfr,rfl⟩ hM
 obtain⟨sa,sc,hsv,-⟩:=slV_open hs
 rw[hsv]
 have HS:=qh hs
 have HSV:=qh hsv
 have HTO:=qh hto
 have HFR:=qh hfr
 have HWS:=qh (Nat.le_trans HSZ.out hWs)
 clear hs hsv hto hWs hfr
 rw[List.append_nil] at hM
 simp only[List.cons_append] at hM
 generalize bk=ab at*
 (refine qq ?_)
 (repeat(first|(refine qW ?_;clear hM;intros;rename_i hM)|(first|((refine qMk ?_);clear hM;intro w bk hM)|((refine qAA hM ?_);clear hM;intro w bk bk' hM))))
 rw[←HV.out]
 refine St.append (s:=xs) (n:=D.log.length) (xs:=D.log.flatMap logC) rfl hM rfl rfl rfl rfl rfl (by kernel_rfl) qsf HK.out rfl (hM.news qm) rfl (by rw[maxLen_val];omega) (by omega) (fun h=>by first|(cases h;done)|exact .inl rfl) ?_
 clear hM;intro w s2 hM hk2 _
 have e1:D.log.flatMap logC++[.int .i64 o,.bool false,.int .i64 pk,.string pp,.string pd,.int .i64 ph,.int .i64 pa,.int .i64 pn,.string px,.int .i64 py,.int .i64 pb]=(D.log++[((o,some ⟨pk,pp,pd,ph,pa,pn,px,py,pb⟩):LogD)]).flatMap logC:=logs_snoc D.log (o,some ⟨pk,pp,pd,ph,pa,pn,px,py,pb⟩)
 have e2:D.log.length+1=(D.log++[((o,some ⟨pk,pp,pd,ph,pa,pn,px,py,pb⟩):LogD)]).length:=by simp
 simp only[Res.known] at hM hk2
 rw[e1] at hM hk2
 rw[e2] at hk2 ⊢
 have HK2:=qh hk2
 obtain⟨ub,ud,hu2,-⟩:=slV_open hk2
 have HU2:=qh hu2
 rw[hu2]
 clear e1 e2 hk2 hu2
 (refine qq ?_)
 (repeat(first|(refine qW ?_;clear hM;intros;rename_i hM)|(first|((refine qMk ?_);clear hM;intro w bk hM)|((refine qAA hM ?_);clear hM;intro w bk bk' hM))))
 (refine qf ?_)
 have h:=HH.out
 rename World=>w
 have hS:St w0 (rdG ⟨xd,xn,xb,xs⟩ D hs) w (txL s ns++rdL ⟨xd,X2,xb,s2⟩ ⟨d',D.base,D.log++[((o,some ⟨pk,pp,pd,ph,pa,pn,px,py,pb⟩):LogD)]⟩ zs2 hs2):=by
  unfold rdL rdE lgL
  simp only
  rw[HU2.out,HTO.out.f]
  exact hM.forget.forget.forget.forget.perm (perm_by (by intro _ x;simp only[List.append_eq,List.count_append,List.count_cons,List.count_nil,List.cons_append,List.nil_append];omega))
 have hnd:=hS.nd
 rw[List.map_append,List.nodup_append] at hnd
 rename World=>w
 have hE:St w0 (rdG ⟨xd,xn,xb,xs⟩ D hs) w (rdL ⟨xd,X2,xb,s2⟩ ⟨d',D.base,D.log++[((o,some ⟨pk,pp,pd,ph,pa,pn,px,py,pb⟩):LogD)]⟩ zs2 hs2):=hS.subM (List.sublist_append_right _ _)
 refine⟨s,⟨xd,X2,xb,s2⟩,⟨zs2,hs2,zb,hb⟩,by rw[HSV.out];rfl,HS.out,hS.whole.sub (List.sublist_append_left _ _),fun k hk=> ?_,hE.rdTo2 h rfl HK2.out (fun hA=>HTO.out.fs.at_ hA) HI.out HL.out (by omega) rfl rfl rfl rfl (fun k hk=> ?_)⟩
 ·obtain⟨y,hy,rfl⟩:=List.mem_map.1 hk
  have h1:w0.heap.size≤y.1:=(hS.own y (List.mem_append_left _ hy) (txL_flag _ _ y hy)).resolve_left fun h2=>by
   have h3:=rdG_keys (V:=⟨zs,hs,zb,hb⟩) _ h2
   have h4:=h.lt y.1 (List.mem_append_left _ h3)
   exact absurd (HFR.out _ hk) (by have:=HWS.out;omega)
  refine⟨h1,fun h2=> ?_⟩
  rcases List.mem_append.1 h2 with h2|h2
  ·exact hnd.2.2 _ hk _ h2 rfl
  ·have:=h.lt y.1 (List.mem_append_right _ h2)
   omega
 ·rcases HTO.out.grow k hk with h1|h1
  ·exact .inl (List.mem_append_left _ (by rw[rdL_keys];exact .tail _ (List.mem_append_right _ h1)))
  ·exact .inr (Nat.le_trans HWS.out h1)
theorem rDo10_any(h:RDs N X D V w0)(hN:N≤800000){o:Int}(ho:Fits o)(p:OpD)(hp:p.Sm)(hpo:p.Ok):Calls Tryz.prog 39 #[.pointer (some ⟨X.d,0,none⟩),.int .i64 o,.agg p.cells.toArray] w0 (RDAns (N+3) X D V w0 (Ol.do_ D o p)):=by
 by_cases h14:p.kind=14
 ·refine(rDo10_sync h o p h14).mono ?_
  rintro e w' ⟨s,X',V',he,hs,hA,hf,hto⟩
  exact⟨s,X',V',he,hs,hA,hf,hto.d,hto.is.more (by omega),hto.only,hto.own,hto.grow⟩
 by_cases he:(Fs.do_ D.now o p).1.err=0
 ·by_cases h6:p.kind=6
  ·exact rDo10_k h hN ho p hp hpo (.inl h6) (beq_iff_eq.2 he)
  by_cases h9:p.kind=9
  ·exact rDo10_k h hN ho p hp hpo (.inr (.inl h9)) (beq_iff_eq.2 he)
  by_cases h13:p.kind=13
  ·exact rDo10_k h hN ho p hp hpo (.inr (.inr h13)) (beq_iff_eq.2 he)
  exact rDo10_o h hN ho p hp hpo h14 h6 h9 h13 he
 ·by_cases h6:p.kind=6
  ·exact rDo10_k h hN ho p hp hpo (.inl h6) (qne.2 he)
  by_cases h9:p.kind=9
  ·exact rDo10_k h hN ho p hp hpo (.inr (.inl h9)) (qne.2 he)
  by_cases h13:p.kind=13
  ·exact rDo10_k h hN ho p hp hpo (.inr (.inr h13)) (qne.2 he)
  exact rDo10_oe h hN ho p hp hpo h14 h6 h9 h13 he
end
end
section
open Go.RowKit Go.Maps
theorem rUnder_any(p dir:ByteArray)(w:World)(hp:p.size≤1000000)(hd:dir.size≤1000000):An 78 #[.string p,.string dir] w (.bool (Pt.under p dir)):=by
 have hM:=St.start w []
 have C1:=qh (fun (W:World)=>rParts_any p W hp)
 have C2:=qh (fun (W:World)=>rParts_any dir W hd)
 have l1:=Pt.parts_len p hp
 have l2:=Pt.parts_len dir hd
 unfold Pt.under
 generalize Pt.parts p=xs at*
 generalize Pt.parts dir=ys at*
 generalize hU:(decide (ys.length<xs.length)&&decide (xs.take ys.length=ys))=U
 have HU:=qh hU
 clear hU
 go_enter Tryz.func78,Tryz.ntmps78
 (refine qw ?_;intros;rename_i hM)
 (refine qKx ?_;intro R hR)
 refine(C1.out _).mono ?_
 rintro e w' ⟨s1,rfl,hk1,hN⟩
 replace hM:=hM.madeM hN (txL_flag _ _)
 refine hR.out _ _ (fun h=>h.below hN.to_below) ?_;clear hR R hN
 obtain⟨a1,c1,hv1,ha1⟩:=slV_open hk1
 rw[hv1]
 (refine qq ?_)
 (refine qw ?_;intros;rename_i hM)
 (refine qKx ?_;intro R hR)
 refine(C2.out _).mono ?_
 rintro e w' ⟨s2,rfl,hk2,hN⟩
 replace hM:=hM.madeM hN (txL_flag _ _)
 refine hR.out _ _ (fun h=>h.below hN.to_below) ?_;clear hR R hN
 obtain⟨a2,c2,hv2,ha2⟩:=slV_open hk2
 rw[hv2]
 (refine qq ?_)
 by_cases h1:xs.length≤ys.length
 ·have k1:(xs.length:Int)≤(ys.length:Int):=by omega
  have e:false=U:=by rw[←HU.out,decide_eq_false (show ¬ys.length<xs.length by omega),Bool.false_and]
  subst e
  exact qwf
 ·have k1:¬((xs.length:Int)≤(ys.length:Int)):=by omega
  rcases s1 with _|⟨g1,cap1⟩
  ·exact absurd hk1.2 (by omega)
  obtain⟨rfl,rfl⟩:=ha1 g1 cap1 rfl
  have e:decide (xs.take ys.length=ys)=U:=by rw[←HU.out,decide_eq_true (show ys.length<xs.length by omega),Bool.true_and]
  have HE:=qh e
  clear e HU hv1
  have HK2:=qh hk2
  have hn1:xs.length≤1000001:=l1
  (refine qw ?_;intros;rename_i hM)
  go_loopw [7] (fun i wr=> ∃ k:Nat,k≤ys.length∧i= .int .i64 k∧Hid (xs.take k=ys.take k)∧St w [] wr (txL s2 ys++txL (some (g1,c1)) xs)) (fun i _=>ys.length - (intOf i).toNat)
  case atStart=>exact⟨0,by omega,rfl,qh rfl,hM⟩
  case round=>
   clear hM
   obtain⟨k,hk,rfl,HT,hM⟩:=hrel
   by_cases hlt:k<ys.length
   ·rcases s2 with _|⟨g2,cap2⟩
    ·exact absurd HK2.out.2 (by omega)
    obtain⟨rfl,rfl⟩:=ha2 g2 cap2 rfl
    have hlx:k<xs.length:=by omega
    obtain⟨y,hy⟩:=get_at hlt
    obtain⟨x,hx⟩:=get_at hlx
    have hy':(ys.map Value.string)[k]? =some (.string y):=by rw[List.getElem?_map,hy];rfl
    have hx':(xs.map Value.string)[k]? =some (.string x):=by rw[List.getElem?_map,hx];rfl
    have k2:(k:Int)<(ys.length:Int):=by omega
    have k3:(k:Int)<(xs.length:Int):=by omega
    simp only[slL,List.cons_append,List.nil_append] at hM
    by_cases hxy:x=y
    ·have q1:(x.toList==y.toList)=true:=by rw[hxy];simp
     have HT':=qh (show xs.take (k+1)=ys.take (k+1) from by rw[List.take_add_one,List.take_add_one,HT.out,hx,hy,hxy])
     clear hy hx hxy HT
     (refine qw ?_;intros;rename_i hM)
     (try simp only[Exit.then])
     (refine⟨?_,qio⟩;repeat(first|exact⟨⟨k+1,by omega,rfl,HT',hM⟩,rfl⟩|apply Exists.intro))
    ·have q1:(x.toList==y.toList)=false:=by rw[ByteArray.toList_eq,ByteArray.toList_eq];exact qne.2 fun h=>hxy (Pt.ba_ext h)
     have e:false=U:=by
      rw[←HE.out]
      refine(decide_eq_false fun h=>hxy ?_).symm
      have h2:(xs.take ys.length)[k]? =ys[k]? :=by rw[h]
      rw[List.getElem?_take,if_pos hlt,hx,hy] at h2
      exact Option.some.inj h2
     subst e
     clear hy hx hxy HT
     exact qwf
   ·have k2:¬((k:Int)<(ys.length:Int)):=by omega
    obtain rfl:k=ys.length:=by omega
    have e:true=U:=by
     rw[←HE.out,HT.out,List.take_length]
     exact(decide_eq_true rfl).symm
    subst e
    clear hlt hk
    exact qwf
end
section
open Go.RowKit Go.Maps
section
variable {w:World}{s s1 s2:Option (Nat×Nat)}{xs:List FileD}
theorem file_row{g cap:Nat}(hA:At (fileL (some (g,cap)) xs) w){k:Nat}{f:FileD}(hf:xs[k]? =some f):w.rangeAt g (k*3) [.string f.path,.bool f.dir,.string f.data]:=by
 have hk:=(List.getElem?_eq_some_iff.1 hf).1
 have:=Res.range (q:=k*3) (n:=3) (hA.has (g,true,.pre (xs.flatMap FileD.cells) 112 (cap*3)) (.head _)) (by show k*3+3≤(xs.flatMap FileD.cells).length;rw[cells_len];omega)
 rw[show(Res.pre (xs.flatMap FileD.cells) 112 (cap*3)).known=xs.flatMap FileD.cells from rfl,file_at hf] at this
 exact this
theorem sameF_any(hk1:FileOK s1 xs)(hk2:FileOK s2 xs)(hl:xs.length≤1000000)(hA1:At (fileL s1 xs) w)(hA2:At (fileL s2 xs) w):
  An 32 #[slV s1 xs.length,slV s2 xs.length] w (.bool true):=by
 have hM:=St.start w []
 obtain⟨a1,c1,hv1,ha1⟩:=slV_open hk1
 obtain⟨a2,c2,hv2,ha2⟩:=slV_open hk2
 rw[hv1,hv2]
 have H1:=qh hA1
 have H2:=qh hA2
 have K1:=qh hk1
 have K2:=qh hk2
 clear hk1 hk2 hA1 hA2 hv1 hv2
 go_enter Tryz.func32,Tryz.ntmps32
 (refine qw ?_;intros;rename_i hM)
 go_loopw [5] (fun i wr=> ∃ k:Nat,k≤xs.length∧i= .int .i64 k∧St w [] wr []) (fun i _=>xs.length - (intOf i).toNat)
 case atStart=>exact⟨0,by omega,rfl,hM⟩
 case round=>
  clear hM
  obtain⟨k,hk,rfl,hM⟩:=hrel
  by_cases hlt:k<xs.length
  ·obtain⟨f,hf⟩:=get_at hlt
   rcases s1 with _|⟨g1,cap1⟩
   ·exact absurd K1.out.2 (by omega)
   rcases s2 with _|⟨g2,cap2⟩
   ·exact absurd K2.out.2 (by omega)
   obtain⟨rfl,rfl⟩:=ha1 g1 cap1 rfl
   obtain⟨rfl,rfl⟩:=ha2 g2 cap2 rfl
   have r1:=file_row H1.out hf
   have r2:=file_row H2.out hf
   have k1:(k:Int)<(xs.length:Int):=by omega
   clear hf
   obtain⟨fp,fd,ft⟩:=f
   simp only at r1 r2
   (refine qw ?_;intros;rename_i hM)
   simp only[Exit.then]
   (refine⟨?_,qio⟩;repeat(first|exact⟨⟨k+1,by omega,rfl,hM⟩,rfl⟩|apply Exists.intro))
  ·have k0:¬((k:Int)<(xs.length:Int)):=by omega
   clear hlt hk
   exact qwf
end
end
section
open Go.RowKit Go.Maps
theorem row_of{w:World}{b q:Nat}{es:List Value}(h: ∀ j,j<es.length→w.cell? ⟨b,q+j,none⟩=es[j]?):w.rangeAt b q es:=fun j v hj=>by
 rw[h j (List.getElem?_eq_some_iff.1 hj).1,hj]
structure SmallF (x:ActF):Prop where
 path:x.op.path.size≤200
 dest:x.op.dest.size≤200
 data:x.op.data.size≤200
theorem ActsIn.get{w:World}{a:Option Addr}{n:Nat}{xs:List ActF}(h:ActsIn w a n xs){k:Nat}{x:ActF}(hk:xs[k]? =some x):
  x.Fit∧ ∃ b off,a=some ⟨b,off,none⟩∧w.rangeAt b (off+k*11) x.cells∧w.rangeAt b (off+k*11+2) x.op.cells:=by
 obtain⟨-,-,h3⟩:=h
 obtain⟨hf,b,off,rfl,hc⟩:=h3 k x hk
 refine⟨hf,b,off,rfl,row_of fun j hj=>hc j hj,row_of fun j hj=> ?_⟩
 have:=hc (j+2) (by have:x.op.cells.length=9:=rfl;omega)
 rw[show off+k*11+(j+2)=off+k*11+2+j by omega] at this
 rw[this]
 rfl
theorem ActF.len{xs:List ActF}{w:World}{a:Option Addr}{n:Nat}(h:ActsIn w a n xs):n=xs.length:=h.1
theorem small9_any{w:World}{a:Option Addr}{n c:Nat}{xs:List ActF}(most:Int)(hm0:0≤most)(hm1:most≤1000)(h:ActsIn w a n xs):
  Calls Tryz.prog 14 #[.slice a n c,.int .i64 most] w fun e w'=> ∃ b:Bool,e= .returned (.bool b)∧(b=true→(xs.length:Int)≤most∧ ∀ (j:Nat) (y:ActF),xs[j]? =some y→SmallF y)∧Below w.heap.size w w':=by
 have hM:=St.start w []
 have HX:=qh h
 obtain⟨rfl,hn,-⟩:=h
 rw[maxLen_val] at hn
 go_enter Tryz.func14,Tryz.ntmps14
 (refine qw ?_;intros;rename_i hM)
 go_loopw [5] (fun i wr=> ∃ k:Nat,k≤xs.length∧(k:Int)≤most∧i= .int .i64 k∧Hid (∀ (j:Nat) (y:ActF),j<k→xs[j]? =some y→SmallF y)∧St w [] wr []) (fun i _=>xs.length - (intOf i).toNat)
 case atStart=>exact⟨0,by omega,hm0,rfl,qh (fun j y hj=>absurd hj (by omega)),hM⟩
 case round=>
  clear hM
  obtain⟨k,hk,hkm,rfl,HS,hM⟩:=hrel
  by_cases hlt:k<xs.length
  ·have k1:(k:Int)<(xs.length:Int):=by omega
   by_cases hlm:(k:Int)<most
   ·obtain⟨x,hxk⟩:=get_at hlt
    obtain⟨hf,b,off,rfl,-,hc⟩:=HX.out.get hxk
    have HN:=qh (fun (hs:SmallF x)=>(show ∀ (j:Nat) (y:ActF),j<k+1→xs[j]? =some y→SmallF y from fun j y hj hy=>by
     rcases Nat.lt_or_ge j k with h|h
     ·exact HS.out j y h hy
     ·obtain rfl:j=k:=by omega
      rw[hxk] at hy;cases hy;exact hs))
    clear hxk
    obtain⟨xo,xe,⟨pk,pp,pd,ph,pa,pn,px,py,pb⟩⟩:=x
    simp only[OpD.cells] at hc
    have hpp:=hf.op.path
    have hpd:=hf.op.dest
    have hpx:=hf.op.data
    rw[maxLen_val] at hpp hpd hpx
    simp only at hpp hpd hpx
    clear hf
    by_cases q1:(200:Int)<(pp.size:Int)
    ·(refine qw ?_;intros;rename_i hM)
     (refine qf ?_)
     exact⟨false,rfl,nofun,hM.to_below⟩
    by_cases q2:(200:Int)<(pd.size:Int)
    ·(refine qw ?_;intros;rename_i hM)
     (refine qf ?_)
     exact⟨false,rfl,nofun,hM.to_below⟩
    by_cases q3:(200:Int)<(px.size:Int)
    ·(refine qw ?_;intros;rename_i hM)
     (refine qf ?_)
     exact⟨false,rfl,nofun,hM.to_below⟩
    have HN':=qh (HN.out ⟨by show pp.size≤200;omega,by show pd.size≤200;omega,by show px.size≤200;omega⟩)
    clear HN
    by_cases q4:(4096:Int)<pa
    ·by_cases q5:pa≤1048576
     ·(refine qw ?_;intros;rename_i hM)
      (refine qf ?_)
      exact⟨false,rfl,nofun,hM.to_below⟩
     ·by_cases q6:(4096:Int)<pn
      ·by_cases q7:pn≤1048576
       ·(refine qw ?_;intros;rename_i hM)
        (refine qf ?_)
        exact⟨false,rfl,nofun,hM.to_below⟩
       ·(refine qw ?_;intros;rename_i hM)
        replace hM:=hM.drop (L':=[]) nofun (by simp)
        (refine⟨?_,qio⟩;repeat(first|exact⟨⟨k+1,by omega,by omega,rfl,HN',hM⟩,rfl⟩|apply Exists.intro))
      ·(refine qw ?_;intros;rename_i hM)
       replace hM:=hM.drop (L':=[]) nofun (by simp)
       (refine⟨?_,qio⟩;repeat(first|exact⟨⟨k+1,by omega,by omega,rfl,HN',hM⟩,rfl⟩|apply Exists.intro))
    ·by_cases q6:(4096:Int)<pn
     ·by_cases q7:pn≤1048576
      ·(refine qw ?_;intros;rename_i hM)
       (refine qf ?_)
       exact⟨false,rfl,nofun,hM.to_below⟩
      ·(refine qw ?_;intros;rename_i hM)
       replace hM:=hM.drop (L':=[]) nofun (by simp)
       (refine⟨?_,qio⟩;repeat(first|exact⟨⟨k+1,by omega,by omega,rfl,HN',hM⟩,rfl⟩|apply Exists.intro))
     ·(refine qw ?_;intros;rename_i hM)
      replace hM:=hM.drop (L':=[]) nofun (by simp)
      (refine⟨?_,qio⟩;repeat(first|exact⟨⟨k+1,by omega,by omega,rfl,HN',hM⟩,rfl⟩|apply Exists.intro))
   ·have k2:¬(xs.length:Int)≤most:=by omega
    (refine qw ?_;intros;rename_i hM)
    (refine qf ?_)
    exact⟨false,rfl,nofun,hM.to_below⟩
  ·have k0:¬((k:Int)<(xs.length:Int)):=by omega
   obtain rfl:k=xs.length:=by omega
   clear hlt hk
   (refine qw ?_;intros;rename_i hM)
   (refine qf ?_)
   exact⟨true,rfl,fun _=>⟨hkm,fun j y hy=>HS.out j y (List.getElem?_eq_some_iff.1 hy).1 hy⟩,hM.to_below⟩
theorem own_acts{w0 w:World}{F:List Nat}{L:List Ent}{b:Nat}{ow:Bool}{t:TypeId}{x:ActF}(hM:St w0 F w L)(hm:(b,ow,Res.cells x.cells t)∈L)(hf:x.Fit):ActsIn w (some ⟨b,0,none⟩) 1 [x]:=by
 refine⟨rfl,by unfold maxLen;omega,fun k y hk=> ?_⟩
 obtain⟨rfl,rfl⟩:k=0∧y=x:=by
  rcases k with _|k
  ·exact⟨rfl,by simpa using hk.symm⟩
  ·simp at hk
 refine⟨hf,b,0,rfl,fun j hj=> ?_⟩
 have hs:y.cells[j]? =some y.cells[j]:=List.getElem?_eq_getElem (show j<11 from hj)
 rw[hs,show 0+0*11+j=j by omega]
 exact Res.cell (hM.holds _ hm) hs
end
section
open Go.RowKit Go.Maps
theorem ActOsIn.get{w:World}{a:Option Addr}{n:Nat}{xs:List ActO}(h:ActOsIn w a n xs){k:Nat}{x:ActO}(hk:xs[k]? =some x):
  x.Fit∧ ∃ b off,a=some ⟨b,off,none⟩∧w.rangeAt b (off+k*13) x.cells∧w.rangeAt b (off+k*13) x.f.cells∧w.rangeAt b (off+k*13+2) x.f.op.cells:=by
 obtain⟨-,-,h3⟩:=h
 obtain⟨hf,b,off,rfl,hc⟩:=h3 k x hk
 refine⟨hf,b,off,rfl,row_of fun j hj=>hc j hj,row_of fun j hj=> ?_,row_of fun j hj=> ?_⟩
 ·have hl:x.f.cells.length=11:=rfl
  rw[hc j (by omega)]
  unfold ActO.cells
  rw[List.getElem?_append_left hj]
 ·have hl:x.f.op.cells.length=9:=rfl
  have hl2:x.f.cells.length=11:=rfl
  have:=hc (j+2) (by omega)
  rw[show off+k*13+(j+2)=off+k*13+2+j by omega] at this
  rw[this]
  unfold ActO.cells
  rw[List.getElem?_append_left (by omega)]
  rfl
theorem small10_any{w:World}{a:Option Addr}{n c:Nat}{xs:List ActO}(most:Int)(hm0:0≤most)(hm1:most≤1000)(h:ActOsIn w a n xs):
  Calls Tryz.prog 24 #[.slice a n c,.int .i64 most] w fun e w'=> ∃ b:Bool,e= .returned (.bool b)∧(b=true→(xs.length:Int)≤most∧ ∀ (j:Nat) (y:ActO),xs[j]? =some y→SmallF y.f)∧Below w.heap.size w w':=by
 have hM:=St.start w []
 have HX:=qh h
 obtain⟨rfl,hn,-⟩:=h
 rw[maxLen_val] at hn
 go_enter Tryz.func24,Tryz.ntmps24
 (refine qw ?_;intros;rename_i hM)
 go_loopw [5] (fun i wr=> ∃ k:Nat,k≤xs.length∧(k:Int)≤most∧i= .int .i64 k∧Hid (∀ (j:Nat) (y:ActO),j<k→xs[j]? =some y→SmallF y.f)∧St w [] wr []) (fun i _=>xs.length - (intOf i).toNat)
 case atStart=>exact⟨0,by omega,hm0,rfl,qh (fun j y hj=>absurd hj (by omega)),hM⟩
 case round=>
  clear hM
  obtain⟨k,hk,hkm,rfl,HS,hM⟩:=hrel
  by_cases hlt:k<xs.length
  ·have k1:(k:Int)<(xs.length:Int):=by omega
   by_cases hlm:(k:Int)<most
   ·obtain⟨x,hxk⟩:=get_at hlt
    obtain⟨hf,b,off,rfl,-,hc,-⟩:=HX.out.get hxk
    have HN:=qh (fun (hs:SmallF x.f)=>(show ∀ (j:Nat) (y:ActO),j<k+1→xs[j]? =some y→SmallF y.f from fun j y hj hy=>by
     rcases Nat.lt_or_ge j k with h|h
     ·exact HS.out j y h hy
     ·obtain rfl:j=k:=by omega
      rw[hxk] at hy;cases hy;exact hs))
    have HF:=qh hf.f
    clear hxk hf
    obtain⟨⟨xo,xe,⟨pk,pp,pd,ph,pa,pn,px,py,pb⟩⟩,xc,xk⟩:=x
    simp only[ActF.cells,OpD.cells] at hc
    (refine qw ?_;intros;rename_i hM)
    (refine qKx ?_;intro R hR)
    refine(small9_any 1 (by decide) (by decide) (own_acts hM (x:=⟨xo,xe,⟨pk,pp,pd,ph,pa,pn,px,py,pb⟩⟩) qm HF.out)).mono ?_
    rintro e w' ⟨bb,rfl,hs,hb⟩
    replace hM:=hM.below hb
    refine qho ?_;clear hR R hb
    have HSM:=qh hs
    clear hs
    (refine qq ?_)
    cases bb with
    |false=>
     (refine qw ?_;intros;rename_i hM)
     (refine qf ?_)
     exact⟨false,rfl,nofun,hM.to_below⟩
    |true=>
     have HN':=qh (HN.out ((HSM.out rfl).2 0 _ rfl))
     clear HN HSM
     (refine qw ?_;intros;rename_i hM)
     replace hM:=hM.drop (L':=[]) nofun (by simp)
     simp only[Exit.then]
     (refine⟨?_,qio⟩;repeat(first|exact⟨⟨k+1,by omega,by omega,rfl,HN',hM⟩,rfl⟩|apply Exists.intro))
   ·have k2:¬(xs.length:Int)≤most:=by omega
    (refine qw ?_;intros;rename_i hM)
    (refine qf ?_)
    exact⟨false,rfl,nofun,hM.to_below⟩
  ·have k0:¬((k:Int)<(xs.length:Int)):=by omega
   obtain rfl:k=xs.length:=by omega
   clear hlt hk
   (refine qw ?_;intros;rename_i hM)
   (refine qf ?_)
   exact⟨true,rfl,fun _=>⟨hkm,fun j y hy=>HS.out j y (List.getElem?_eq_some_iff.1 hy).1 hy⟩,hM.to_below⟩
end
section
open Go.RowKit Go.Maps
namespace Fs
theorem under_size{N:Nat}{t:TabD}(I:In.Inv N t): ∀ (k:Nat) (id:Int) (dir:ByteArray),∀ f∈under t k id dir,f.path.size≤dir.size+33*k
 |0,_,_,f,h=>by cases h
 |k+1,id,dir,f,h=>by
  unfold under at h
  obtain⟨p,hp,hf⟩:=List.mem_flatMap.1 h
  have hs:=I.short _ (In.find_some (In.names_found hp)).1 p hp
  have hj:=join_size dir p.1
  rcases List.mem_cons.1 hf with rfl|hf
  ·show(Pt.join dir p.1).size≤_
   omega
  ·have:=under_size I k p.2 (Pt.join dir p.1) f hf
   omega
theorem files_size{N:Nat}{d:FsD}(I:Inv N d)(hN:N≤30000): ∀ f∈files d,f.path.size≤1000000:=fun f hf=>by
 have:=under_size I.tbl _ _ _ f hf
 have h2:=I.tbl.last
 have e:(⟨#[]⟩:ByteArray).size=0:=rfl
 omega
end Fs
section
variable {N:Nat}{X:DskX}{x y:FsX}{β γ:Int→Nat×Nat}{D:DskD}{d:FsD}{w w' w0:World}{F:List Nat}{L L' M M':List Ent}{b f g n:Nat}{s:Option (Nat×Nat)}
theorem opK_ok{k:Int}(hk:Fits k){p:ByteArray}(h:p.size≤1000000):(opK k p).Ok:=⟨hk,show Fits 0 by decide,show Fits 0 by decide,show Fits 0 by decide,h,show(⟨#[]⟩:ByteArray).size≤1000000 by decide,show(⟨#[]⟩:ByteArray).size≤maxLen by decide⟩
theorem fold_step{xs:List FileD}{k:Nat}{f:FileD}(h:xs[k]? =some f)(d:FsD):(xs.take (k+1)).foldl Ol.empty1 d=Ol.empty1 ((xs.take k).foldl Ol.empty1 d) f:=by
 rw[List.take_add_one,h,Option.toList_some,List.foldl_append]
 rfl
theorem empties_any(h:FsAt N x β d w0)(hfi0:Ol.FInv N d)(hN:N≤30000):Calls Tryz.prog 79 #[.pointer (some ⟨x.f,0,none⟩),.string ⟨#[114,117,110]⟩] w0 fun e w'=>e= .returned (.tuple #[])∧ ∃ β',St w0 (keysOf (fsL x β d)) w' (fsL x β' (Ol.empties d)):=by
 have hM:=h.at_.st
 obtain⟨F,hF⟩: ∃ F,keysOf (fsL x β d)=F:=⟨_,rfl⟩
 rw[hF] at hM ⊢
 have F0:0∉F:=hF▸h.zero
 have HI:=qh h.inv
 have HX:=qh h.mx
 have HFI:=qh hfi0
 have hup:=hfi0.up
 have HSZ:=qh (Fs.files_size h.inv hN)
 have HLN:=qh (Fs.files_len h.inv hup)
 have CF:=qh (fFiles_any h hup (by omega))
 have hED:Ol.empties d=(Fs.files d).reverse.foldl Ol.empty1 d:=rfl
 rw[hED]
 clear hF h hup hED hfi0
 generalize Fs.files d=fs at*
 go_enter Tryz.func79,Tryz.ntmps79
 (refine qw ?_;intros;rename_i hM)
 (refine qKx ?_;intro R hR)
 refine CF.out.mono ?_
 rintro e w' ⟨s,rfl,hk,hN2⟩
 replace hM:=hM.madeM hN2 (slL_flag _ _ _ _)
 refine qho ?_;clear hR R hN2 CF
 have HK:=qh hk
 obtain⟨va,vc,hv,hva⟩:=slV_open hk
 (refine qq ?_)
 (refine qw ?_;intros;rename_i hM)
 (refine qKx ?_;intro R hR)
 refine(revF_any hk (by have:=HLN.out;omega) (hM.part .here)).mono ?_
 rintro e w' ⟨rfl,hN2⟩
 replace hM:=hM.backM .here (slL_flag _ _ _ _) hN2 (slL_flag _ _ _ _)
 refine qho ?_;clear hR R hN2
 have hk2:=fileOK_set hk (ys:=fs.reverse) (by simp)
 have e1:fs.length=fs.reverse.length:=by simp
 have HSZ2:=qh (fun f (hf:f∈fs.reverse)=>HSZ.out f (List.mem_reverse.1 hf))
 have HLN2:=qh (e1▸HLN.out)
 rw[hv]
 rw[e1] at hv ⊢
 clear HSZ HLN HK hk e1
 generalize fs.reverse=rs at*
 have HK:=qh hk2
 clear hk2
 (refine qq ?_)
 (refine qw ?_;intros;rename_i hM)
 have hrl:rs.length≤30000:=by have:=HLN2.out;omega
 go_loopw [14] (fun i wr=> ∃ (k:Nat) (β':Int→Nat×Nat) (dk:FsD),k≤rs.length∧i= .int .i64 k∧(rs.take k).foldl Ol.empty1 d=dk∧Ol.FInv N dk∧St w0 F wr (fileL s rs++fsL x β' dk)) (fun i _=>rs.length - (intOf i).toNat)
 case atStart=>exact⟨0,β,d,by omega,rfl,by simp,HFI.out,hM⟩
 case round=>
  clear hM
  obtain⟨k,β,dk,hk,rfl,hdk,hfi,hM⟩:=hrel
  have HDK:=qh hdk
  have HFK:=qh hfi
  clear hdk hfi
  by_cases hlt:k<rs.length
  ·obtain⟨f,hf⟩:=get_at hlt
   cases s with
   |none=>exact absurd HK.out.2 (by omega)
   |some gc=>
   obtain⟨g,cap⟩:=gc
   obtain⟨rfl,rfl⟩:=hva g cap rfl
   have hsz:=HSZ2.out f (List.mem_of_getElem? hf)
   have hrow:=file_at hf
   have hlen:k*3+3≤(rs.flatMap FileD.cells).length:=by rw[cells_len];omega
   have HST:=qh ((fold_step hf d).trans (congrArg (fun z=>Ol.empty1 z f) HDK.out))
   have HF1:=qh (Ol.finv_empty1 HFK.out f)
   have k1:(k:Int)<(rs.length:Int):=by omega
   have CU:=qh (fun (W:World) (hm:Mx W)=>Under_any f.path Pt.run W hsz (by decide) hm)
   have CD2:=qh (fun (W:World) (β':Int→Nat×Nat) (hA:FsAt N x β' dk W)=>fDo_any hA (by omega) (o:=0) (by decide) (opK 2 f.path) (opK_ok (by decide) hsz))
   have CD11:=qh (fun (W:World) (β':Int→Nat×Nat) (hA:FsAt N x β' dk W)=>fDo_any hA (by omega) (o:=0) (by decide) (opK 11 f.path) (opK_ok (by decide) hsz))
   have hem:Ol.empty1 dk f=if Pt.under f.path Pt.run then(Fs.do_ dk 0 (opK (if f.dir then 2 else 11) f.path)).2 else dk:=rfl
   rw[hem] at HST HF1
   clear hf hlt hsz hem
   obtain⟨fp,fd,ft⟩:=f
   simp only at hrow HST HF1 CU CD2 CD11
   simp only[slL,List.cons_append,List.nil_append] at hM
   (refine qw ?_;intros;rename_i hM)
   refine St.loadRow rfl hM rfl rfl rfl rfl qm (by exact hlen) (by kernel_rfl) ?_
   simp only[Res.known]
   rw[hrow]
   (refine qq ?_)
   generalize Pt.under fp Pt.run=un at*
   cases fd with
   |false=>
    cases un with
    |false=>
     have hst:=HST.out
     have hf1:=HF1.out
     simp only[Bool.false_eq_true,if_false,if_true] at hst hf1
     have HS1:=qh hst
     have HF2:=qh hf1
     clear hst hf1 HST HF1
     (refine qw ?_;intros;rename_i hM)
     (refine qKx ?_;intro R hR)
     refine(CU.out _ (hM.mx HX.out F0)).mono ?_
     rintro e w' ⟨rfl,hb⟩
     replace hM:=hM.below hb
     refine qho ?_;clear hR R hb
     (refine qq ?_)
     (refine qw ?_;intros;rename_i hM)
     replace hM:=hM.forget.forget
     simp only[Exit.then]
     (refine⟨?_,qio⟩;repeat(first|exact⟨⟨k+1,β,dk,by omega,rfl,HS1.out,HF2.out,hM⟩,rfl⟩|apply Exists.intro))
    |true=>
     have hst:=HST.out
     have hf1:=HF1.out
     simp only[Bool.false_eq_true,if_false,if_true] at hst hf1
     have HS1:=qh hst
     have HF2:=qh hf1
     clear hst hf1 HST HF1
     (refine qw ?_;intros;rename_i hM)
     (refine qKx ?_;intro R hR)
     refine(CU.out _ (hM.mx HX.out F0)).mono ?_
     rintro e w' ⟨rfl,hb⟩
     replace hM:=hM.below hb
     refine qho ?_;clear hR R hb
     (refine qq ?_)
     (refine qw ?_;intros;rename_i hM)
     (refine qKx ?_;intro R hR)
     refine(CD11.out _ β (hM.fs (x:=x) (β:=β) (d:=dk) qpt HFK.out.inv HX.out F0)).mono ?_
     rintro e w' ⟨s2,β2,rfl,-,hN2⟩
     replace hM:=hM.backM (M:=fsL x β dk) (.skip (.skip (.skip .all))) (fsL_flag _ _ _) hN2 (fun y hy=>(List.mem_append.1 hy).elim (txL_flag _ _ y) (fsL_flag _ _ _ y))
     refine qho ?_;clear hR R hN2
     (refine qq ?_)
     (refine qw ?_;intros;rename_i hM)
     replace hM:=hM.forget.forget.subM ((List.sublist_append_right _ _).cons_cons _)
     simp only[Exit.then]
     (refine⟨?_,qio⟩;repeat(first|exact⟨⟨k+1,β2,_,by omega,rfl,HS1.out,HF2.out,hM⟩,rfl⟩|apply Exists.intro))
   |true=>
    cases un with
    |false=>
     have hst:=HST.out
     have hf1:=HF1.out
     simp only[Bool.false_eq_true,if_false,if_true] at hst hf1
     have HS1:=qh hst
     have HF2:=qh hf1
     clear hst hf1 HST HF1
     (refine qw ?_;intros;rename_i hM)
     (refine qKx ?_;intro R hR)
     refine(CU.out _ (hM.mx HX.out F0)).mono ?_
     rintro e w' ⟨rfl,hb⟩
     replace hM:=hM.below hb
     refine qho ?_;clear hR R hb
     (refine qq ?_)
     (refine qw ?_;intros;rename_i hM)
     replace hM:=hM.forget.forget
     simp only[Exit.then]
     (refine⟨?_,qio⟩;repeat(first|exact⟨⟨k+1,β,dk,by omega,rfl,HS1.out,HF2.out,hM⟩,rfl⟩|apply Exists.intro))
    |true=>
     have hst:=HST.out
     have hf1:=HF1.out
     simp only[Bool.false_eq_true,if_false,if_true] at hst hf1
     have HS1:=qh hst
     have HF2:=qh hf1
     clear hst hf1 HST HF1
     (refine qw ?_;intros;rename_i hM)
     (refine qKx ?_;intro R hR)
     refine(CU.out _ (hM.mx HX.out F0)).mono ?_
     rintro e w' ⟨rfl,hb⟩
     replace hM:=hM.below hb
     refine qho ?_;clear hR R hb
     (refine qq ?_)
     (refine qw ?_;intros;rename_i hM)
     (refine qKx ?_;intro R hR)
     refine(CD2.out _ β (hM.fs (x:=x) (β:=β) (d:=dk) qpt HFK.out.inv HX.out F0)).mono ?_
     rintro e w' ⟨s2,β2,rfl,-,hN2⟩
     replace hM:=hM.backM (M:=fsL x β dk) (.skip (.skip (.skip .all))) (fsL_flag _ _ _) hN2 (fun y hy=>(List.mem_append.1 hy).elim (txL_flag _ _ y) (fsL_flag _ _ _ y))
     refine qho ?_;clear hR R hN2
     (refine qq ?_)
     (refine qw ?_;intros;rename_i hM)
     replace hM:=hM.forget.forget.subM ((List.sublist_append_right _ _).cons_cons _)
     simp only[Exit.then]
     (refine⟨?_,qio⟩;repeat(first|exact⟨⟨k+1,β2,_,by omega,rfl,HS1.out,HF2.out,hM⟩,rfl⟩|apply Exists.intro))
  ·have k0:¬((k:Int)<(rs.length:Int)):=by omega
   obtain rfl:k=rs.length:=by omega
   have e:=HDK.out
   rw[List.take_length] at e
   clear hlt hk
   (refine qw ?_;intros;rename_i hM)
   (refine qf ?_)
   refine⟨rfl,β, ?_⟩
   rw[e]
   exact hM.subM (List.sublist_append_right _ _)
end
end
end Go.Proofs.YtcicjklhbnipcaaGreatDoor
