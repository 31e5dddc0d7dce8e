/- Parts of the walk: Z31N Z31O Z31P Z31Q Z31R. -/
import Derived.Test.YtlhaljblcimnbaaGreatG2
namespace Go.AM
open Go.RowKit Go.Proofs
set_option linter.unusedSimpArgs false
set_option linter.unusedVariables false
set_option maxHeartbeats 8000000
def rsB (l:List UInt8):Bool:=decide (l.length < 1) || (decide (8 < l.length) || digB (l.headD 0))
theorem vs6 (l:List UInt8):symM l=(!rsB l&&l.all okB):=by
 rw [Bool.eq_iff_iff]
 simp only [symM,rsB,Bool.and_eq_true,Bool.not_eq_true',Bool.or_eq_false_iff,decide_eq_true_eq,decide_eq_false_iff_not]
 constructor
 ·rintro ⟨h1,h2,h3,h4⟩
  exact ⟨⟨by omega,by omega,h3⟩,h4⟩
 ·rintro ⟨⟨h1,h2,h3⟩,h4⟩
  exact ⟨by omega,by omega,h3,h4⟩
theorem vv6 (l:List UInt8) (hl:l.length≤9223372036854775807):Sound Tryz.prog 86 [strB l] (.v (.bool (symM l))):=by
 refine zh9 Tryz.func86 rfl (by decide +kernel) (by simp [Tryz.f86]) rfl rfl (rs:=[.tmp 2]) rfl ?_
 rw [show Tryz.f86.ntmps=59 from rfl]
 simp only [strB]
 refine yt9 [0] (by simp;rfl) ?_
 refine yl9 ?_
 refine ws9 (fun σ=>σ=⟨59,[(0,.v (.string ⟨l.toArray⟩)),(22,.v (.bool (rsB l)))],[]⟩) ?_ ?_
 ·by_cases n1 : 1 ≤ l.length
  ·have n10 : 1 ≤ l.length := n1
   have n1a:(1:Int)≤(l.length:Nat):=by omega
   have n1b:¬ l.length < 1:=by omega
   have n1c:¬ ((l.length:Nat):Int) < 1:=by omega
   have hpos:0 < l.length:=n1
   obtain ⟨b,hb⟩:∃ b,l[0]?=some b:=⟨_,List.getElem?_eq_getElem hpos⟩
   have hb2:l[0]=b:=by rw [List.getElem?_eq_getElem hpos] at hb;exact Option.some.inj hb
   have hhd:l.head?.getD 0=b:=by rw [List.head?_eq_getElem?,hb];rfl
   by_cases n2:l.length≤8
   ·have n20 : l.length ≤ 8 := n2
    have n2a:((l.length:Nat):Int)≤8:=by omega
    have n2b:¬ 8 < l.length:=by omega
    have n2c:¬ (8:Int) < (l.length:Nat):=by omega
    by_cases n3:48≤b.toNat
    ·have n30 : 48 ≤ b.toNat := n3
     have n3a:(48:Int)≤(b.toNat:Nat):=by omega
     have n3b:¬ b.toNat < 48:=by omega
     have n3c:¬ ((b.toNat:Nat):Int) < 48:=by omega
     by_cases n4:b.toNat≤57
     ·have n40:b.toNat≤57:=n4
      have n4a:((b.toNat:Nat):Int)≤57:=by omega
      have n4b:¬ 57 < b.toNat:=by omega
      have n4c:¬ (57:Int) < (b.toNat:Nat):=by omega
      refine W_rE [0,22] ?_
      iterate 2 refine yq9 6 (by simp [n10,n1a,n1b,n1c,hpos,hb,hb2,hhd,n20,n2a,n2b,n2c,n30,n3a,n3b,n3c,n40,n4a,n4b,n4c];rfl) rfl ?_
      refine yw9 (by simp [n10,n1a,n1b,n1c,hpos,hb,hb2,hhd,n20,n2a,n2b,n2c,n30,n3a,n3b,n3c,n40,n4a,n4b,n4c];rfl) ?_
      simp [yj9,rsB,digB,n10,n1a,n1b,n1c,hpos,hb,hb2,hhd,n20,n2a,n2b,n2c,n30,n3a,n3b,n3c,n40,n4a,n4b,n4c]
     have n40:¬ b.toNat≤57:=n4
     have n4a:¬ ((b.toNat:Nat):Int)≤57:=by omega
     have n4b:57 < b.toNat:=by omega
     have n4c:(57:Int) < (b.toNat:Nat):=by omega
     refine W_rE [0,22] ?_
     iterate 2 refine yq9 6 (by simp [n10,n1a,n1b,n1c,hpos,hb,hb2,hhd,n20,n2a,n2b,n2c,n30,n3a,n3b,n3c,n40,n4a,n4b,n4c];rfl) rfl ?_
     refine yw9 (by simp [n10,n1a,n1b,n1c,hpos,hb,hb2,hhd,n20,n2a,n2b,n2c,n30,n3a,n3b,n3c,n40,n4a,n4b,n4c];rfl) ?_
     simp [yj9,rsB,digB,n10,n1a,n1b,n1c,hpos,hb,hb2,hhd,n20,n2a,n2b,n2c,n30,n3a,n3b,n3c,n40,n4a,n4b,n4c]
    have n30:¬ 48≤b.toNat:=n3
    have n3a:¬ (48:Int)≤(b.toNat:Nat):=by omega
    have n3b:b.toNat < 48:=by omega
    have n3c:((b.toNat:Nat):Int) < 48:=by omega
    refine W_rE [0,22] ?_
    iterate 2 refine yq9 6 (by simp [n10,n1a,n1b,n1c,hpos,hb,hb2,hhd,n20,n2a,n2b,n2c,n30,n3a,n3b,n3c];rfl) rfl ?_
    refine yw9 (by simp [n10,n1a,n1b,n1c,hpos,hb,hb2,hhd,n20,n2a,n2b,n2c,n30,n3a,n3b,n3c];rfl) ?_
    simp [yj9,rsB,digB,n10,n1a,n1b,n1c,hpos,hb,hb2,hhd,n20,n2a,n2b,n2c,n30,n3a,n3b,n3c]
   have n20:¬ l.length≤8:=n2
   have n2a:¬ ((l.length:Nat):Int)≤8:=by omega
   have n2b:8 < l.length:=by omega
   have n2c:(8:Int) < (l.length:Nat):=by omega
   refine W_rE [0,22] ?_
   iterate 2 refine yq9 6 (by simp [n10,n1a,n1b,n1c,hpos,hb,hb2,hhd,n20,n2a,n2b,n2c];rfl) rfl ?_
   refine yw9 (by simp [n10,n1a,n1b,n1c,hpos,hb,hb2,hhd,n20,n2a,n2b,n2c];rfl) ?_
   simp [yj9,rsB,digB,n10,n1a,n1b,n1c,hpos,hb,hb2,hhd,n20,n2a,n2b,n2c]
  have n10:¬ 1≤l.length:=n1
  have n1a:¬ (1:Int)≤(l.length:Nat):=by omega
  have n1b:l.length < 1:=by omega
  have n1c:((l.length:Nat):Int) < 1:=by omega
  refine W_rE [0,22] ?_
  iterate 2 refine yq9 6 (by simp [n10,n1a,n1b,n1c];rfl) rfl ?_
  refine yw9 (by simp [n10,n1a,n1b,n1c];rfl) ?_
  simp [yj9,rsB,digB,n10,n1a,n1b,n1c]
 rintro _ rfl
 by_cases hr:rsB l=true
 ·rw [hr]
  refine yp9 rfl (fun h=>?_) (fun h=>by simp at h)
  refine yt9 [2] (by simp;rfl) ?_
  refine yn9 ?_
  repeat (first | refine yg9 ?_ | refine yh9 ?_)
  simp [retQ,vs6,hr]
 have hrf:rsB l=false:=by simpa using hr
 rw [hrf]
 refine yp9 rfl (fun h=>by simp at h) (fun h=>?_)
 refine yk9 ?_
 refine yl9 ?_
 refine yt9 [0,3] (by simp;rfl) ?_
 refine ys9 ?_
 refine zl9 (fun k σ=>∃ i:Nat,k=l.length - i∧i≤l.length∧(l.take i).all okB=true∧σ=⟨59,[(0,.v (.string ⟨l.toArray⟩)),(3,.v (.int .i64 (i:Nat)))],[]⟩) (k:=l.length) ⟨0,rfl,by omega,by simp,by simp⟩ ?_
 rintro k s ⟨i,rfl,hi,hall,rfl⟩
 refine yl9 ?_
 by_cases c:i < l.length
 ·have ci : (i : Int) < l.length := by omega
  obtain ⟨b,hb⟩:∃ b,l[i]?=some b:=⟨_,List.getElem?_eq_getElem c⟩
  have hb2:l[i]=b:=by rw [List.getElem?_eq_getElem c] at hb;exact Option.some.inj hb
  have wi:=w64 (n:=(i:Int)+1) (by omega) (by omega)
  refine W_cT [0,3,26] (by simp [c,ci];rfl) rfl ?_
  refine yk9 ?_
  refine yl9 ?_
  refine ys9 ?_
  refine yt9 [0,3,4] (by simp [c,ci,hb,hb2];rfl) ?_
  refine ws9 (fun σ=>σ=⟨59,[(0,.v (.string ⟨l.toArray⟩)),(3,.v (.int .i64 (i:Nat))),(58,.v (.bool (!okB b)))],[]⟩) ?_ ?_
  ·by_cases p1 : 65 ≤ b.toNat
   ·have p10 : 65 ≤ b.toNat := p1
    have p1a:(65:Int)≤(b.toNat:Nat):=by omega
    have p1b:¬ b.toNat < 65:=by omega
    have p1c:¬ ((b.toNat:Nat):Int) < 65:=by omega
    by_cases p2:b.toNat≤90
    ·have p20:b.toNat≤90:=p2
     have p2a:((b.toNat:Nat):Int)≤90:=by omega
     have p2b:¬ 90 < b.toNat:=by omega
     have p2c:¬ (90:Int) < (b.toNat:Nat):=by omega
     refine W_rE [0,3,58] ?_
     iterate 4 refine yq9 6 (by simp [p10,p1a,p1b,p1c,p20,p2a,p2b,p2c];rfl) rfl ?_
     refine yw9 (by simp [p10,p1a,p1b,p1c,p20,p2a,p2b,p2c];rfl) ?_
     simp [yj9,okB,okC,p10,p1a,p1b,p1c,p20,p2a,p2b,p2c]
    have p20:¬ b.toNat≤90:=p2
    have p2a:¬ ((b.toNat:Nat):Int)≤90:=by omega
    have p2b:90 < b.toNat:=by omega
    have p2c:(90:Int) < (b.toNat:Nat):=by omega
    by_cases p3:48≤b.toNat
    ·have p30 : 48 ≤ b.toNat := p3
     have p3a:(48:Int)≤(b.toNat:Nat):=by omega
     have p3b:¬ b.toNat < 48:=by omega
     have p3c:¬ ((b.toNat:Nat):Int) < 48:=by omega
     by_cases p4:b.toNat≤57
     ·have p40:b.toNat≤57:=p4
      have p4a:((b.toNat:Nat):Int)≤57:=by omega
      have p4b:¬ 57 < b.toNat:=by omega
      have p4c:¬ (57:Int) < (b.toNat:Nat):=by omega
      refine W_rE [0,3,58] ?_
      iterate 4 refine yq9 6 (by simp [p10,p1a,p1b,p1c,p20,p2a,p2b,p2c,p30,p3a,p3b,p3c,p40,p4a,p4b,p4c];rfl) rfl ?_
      refine yw9 (by simp [p10,p1a,p1b,p1c,p20,p2a,p2b,p2c,p30,p3a,p3b,p3c,p40,p4a,p4b,p4c];rfl) ?_
      simp [yj9,okB,okC,p10,p1a,p1b,p1c,p20,p2a,p2b,p2c,p30,p3a,p3b,p3c,p40,p4a,p4b,p4c]
     have p40:¬ b.toNat≤57:=p4
     have p4a:¬ ((b.toNat:Nat):Int)≤57:=by omega
     have p4b:57 < b.toNat:=by omega
     have p4c:(57:Int) < (b.toNat:Nat):=by omega
     by_cases p5:b.toNat=64
     ·have p5a:((b.toNat:Nat):Int)=64:=by omega
      refine W_rE [0,3,58] ?_
      iterate 4 refine yq9 6 (by simp [p10,p1a,p1b,p1c,p20,p2a,p2b,p2c,p30,p3a,p3b,p3c,p40,p4a,p4b,p4c,p5a];rfl) rfl ?_
      refine yw9 (by simp [p10,p1a,p1b,p1c,p20,p2a,p2b,p2c,p30,p3a,p3b,p3c,p40,p4a,p4b,p4c,p5a];rfl) ?_
      simp [yj9,okB,okC,p10,p1a,p1b,p1c,p20,p2a,p2b,p2c,p30,p3a,p3b,p3c,p40,p4a,p4b,p4c,p5a]
     have p50:¬ b.toNat=64:=p5
     have p5a:¬ ((b.toNat:Nat):Int)=64:=by omega
     have p5b:(((b.toNat:Nat):Int) == 64)=false:=beq_eq_false_iff_ne.2 (by omega)
     by_cases p6:b.toNat=35
     ·have p6a:((b.toNat:Nat):Int)=35:=by omega
      refine W_rE [0,3,58] ?_
      iterate 4 refine yq9 6 (by simp [p10,p1a,p1b,p1c,p20,p2a,p2b,p2c,p30,p3a,p3b,p3c,p40,p4a,p4b,p4c,p50,p5a,p5b,p6a];rfl) rfl ?_
      refine yw9 (by simp [p10,p1a,p1b,p1c,p20,p2a,p2b,p2c,p30,p3a,p3b,p3c,p40,p4a,p4b,p4c,p50,p5a,p5b,p6a];rfl) ?_
      simp [yj9,okB,okC,p10,p1a,p1b,p1c,p20,p2a,p2b,p2c,p30,p3a,p3b,p3c,p40,p4a,p4b,p4c,p50,p5a,p5b,p6a]
     have p60:¬ b.toNat=35:=p6
     have p6a:¬ ((b.toNat:Nat):Int)=35:=by omega
     have p6b:(((b.toNat:Nat):Int) == 35)=false:=beq_eq_false_iff_ne.2 (by omega)
     by_cases p7:b.toNat=36
     ·have p7a:((b.toNat:Nat):Int)=36:=by omega
      refine W_rE [0,3,58] ?_
      iterate 4 refine yq9 6 (by simp [p10,p1a,p1b,p1c,p20,p2a,p2b,p2c,p30,p3a,p3b,p3c,p40,p4a,p4b,p4c,p50,p5a,p5b,p60,p6a,p6b,p7a];rfl) rfl ?_
      refine yw9 (by simp [p10,p1a,p1b,p1c,p20,p2a,p2b,p2c,p30,p3a,p3b,p3c,p40,p4a,p4b,p4c,p50,p5a,p5b,p60,p6a,p6b,p7a];rfl) ?_
      simp [yj9,okB,okC,p10,p1a,p1b,p1c,p20,p2a,p2b,p2c,p30,p3a,p3b,p3c,p40,p4a,p4b,p4c,p50,p5a,p5b,p60,p6a,p6b,p7a]
     have p70:¬ b.toNat=36:=p7
     have p7a:¬ ((b.toNat:Nat):Int)=36:=by omega
     have p7b:(((b.toNat:Nat):Int) == 36)=false:=beq_eq_false_iff_ne.2 (by omega)
     refine W_rE [0,3,58] ?_
     iterate 4 refine yq9 6 (by simp [p10,p1a,p1b,p1c,p20,p2a,p2b,p2c,p30,p3a,p3b,p3c,p40,p4a,p4b,p4c,p50,p5a,p5b,p60,p6a,p6b,p70,p7a,p7b];rfl) rfl ?_
     refine yw9 (by simp [p10,p1a,p1b,p1c,p20,p2a,p2b,p2c,p30,p3a,p3b,p3c,p40,p4a,p4b,p4c,p50,p5a,p5b,p60,p6a,p6b,p70,p7a,p7b];rfl) ?_
     simp [yj9,okB,okC,p10,p1a,p1b,p1c,p20,p2a,p2b,p2c,p30,p3a,p3b,p3c,p40,p4a,p4b,p4c,p50,p5a,p5b,p60,p6a,p6b,p70,p7a,p7b]
    have p30:¬ 48≤b.toNat:=p3
    have p3a:¬ (48:Int)≤(b.toNat:Nat):=by omega
    have p3b:b.toNat < 48:=by omega
    have p3c:((b.toNat:Nat):Int) < 48:=by omega
    by_cases p5:b.toNat=64
    ·have p5a:((b.toNat:Nat):Int)=64:=by omega
     refine W_rE [0,3,58] ?_
     iterate 4 refine yq9 6 (by simp [p10,p1a,p1b,p1c,p20,p2a,p2b,p2c,p30,p3a,p3b,p3c,p5a];rfl) rfl ?_
     refine yw9 (by simp [p10,p1a,p1b,p1c,p20,p2a,p2b,p2c,p30,p3a,p3b,p3c,p5a];rfl) ?_
     simp [yj9,okB,okC,p10,p1a,p1b,p1c,p20,p2a,p2b,p2c,p30,p3a,p3b,p3c,p5a]
    have p50:¬ b.toNat=64:=p5
    have p5a:¬ ((b.toNat:Nat):Int)=64:=by omega
    have p5b:(((b.toNat:Nat):Int) == 64)=false:=beq_eq_false_iff_ne.2 (by omega)
    by_cases p6:b.toNat=35
    ·have p6a:((b.toNat:Nat):Int)=35:=by omega
     refine W_rE [0,3,58] ?_
     iterate 4 refine yq9 6 (by simp [p10,p1a,p1b,p1c,p20,p2a,p2b,p2c,p30,p3a,p3b,p3c,p50,p5a,p5b,p6a];rfl) rfl ?_
     refine yw9 (by simp [p10,p1a,p1b,p1c,p20,p2a,p2b,p2c,p30,p3a,p3b,p3c,p50,p5a,p5b,p6a];rfl) ?_
     simp [yj9,okB,okC,p10,p1a,p1b,p1c,p20,p2a,p2b,p2c,p30,p3a,p3b,p3c,p50,p5a,p5b,p6a]
    have p60:¬ b.toNat=35:=p6
    have p6a:¬ ((b.toNat:Nat):Int)=35:=by omega
    have p6b:(((b.toNat:Nat):Int) == 35)=false:=beq_eq_false_iff_ne.2 (by omega)
    by_cases p7:b.toNat=36
    ·have p7a:((b.toNat:Nat):Int)=36:=by omega
     refine W_rE [0,3,58] ?_
     iterate 4 refine yq9 6 (by simp [p10,p1a,p1b,p1c,p20,p2a,p2b,p2c,p30,p3a,p3b,p3c,p50,p5a,p5b,p60,p6a,p6b,p7a];rfl) rfl ?_
     refine yw9 (by simp [p10,p1a,p1b,p1c,p20,p2a,p2b,p2c,p30,p3a,p3b,p3c,p50,p5a,p5b,p60,p6a,p6b,p7a];rfl) ?_
     simp [yj9,okB,okC,p10,p1a,p1b,p1c,p20,p2a,p2b,p2c,p30,p3a,p3b,p3c,p50,p5a,p5b,p60,p6a,p6b,p7a]
    have p70:¬ b.toNat=36:=p7
    have p7a:¬ ((b.toNat:Nat):Int)=36:=by omega
    have p7b:(((b.toNat:Nat):Int) == 36)=false:=beq_eq_false_iff_ne.2 (by omega)
    refine W_rE [0,3,58] ?_
    iterate 4 refine yq9 6 (by simp [p10,p1a,p1b,p1c,p20,p2a,p2b,p2c,p30,p3a,p3b,p3c,p50,p5a,p5b,p60,p6a,p6b,p70,p7a,p7b];rfl) rfl ?_
    refine yw9 (by simp [p10,p1a,p1b,p1c,p20,p2a,p2b,p2c,p30,p3a,p3b,p3c,p50,p5a,p5b,p60,p6a,p6b,p70,p7a,p7b];rfl) ?_
    simp [yj9,okB,okC,p10,p1a,p1b,p1c,p20,p2a,p2b,p2c,p30,p3a,p3b,p3c,p50,p5a,p5b,p60,p6a,p6b,p70,p7a,p7b]
   have p10:¬ 65≤b.toNat:=p1
   have p1a:¬ (65:Int)≤(b.toNat:Nat):=by omega
   have p1b:b.toNat < 65:=by omega
   have p1c:((b.toNat:Nat):Int) < 65:=by omega
   by_cases p3:48≤b.toNat
   ·have p30 : 48 ≤ b.toNat := p3
    have p3a:(48:Int)≤(b.toNat:Nat):=by omega
    have p3b:¬ b.toNat < 48:=by omega
    have p3c:¬ ((b.toNat:Nat):Int) < 48:=by omega
    by_cases p4:b.toNat≤57
    ·have p40:b.toNat≤57:=p4
     have p4a:((b.toNat:Nat):Int)≤57:=by omega
     have p4b:¬ 57 < b.toNat:=by omega
     have p4c:¬ (57:Int) < (b.toNat:Nat):=by omega
     refine W_rE [0,3,58] ?_
     iterate 4 refine yq9 6 (by simp [p10,p1a,p1b,p1c,p30,p3a,p3b,p3c,p40,p4a,p4b,p4c];rfl) rfl ?_
     refine yw9 (by simp [p10,p1a,p1b,p1c,p30,p3a,p3b,p3c,p40,p4a,p4b,p4c];rfl) ?_
     simp [yj9,okB,okC,p10,p1a,p1b,p1c,p30,p3a,p3b,p3c,p40,p4a,p4b,p4c]
    have p40:¬ b.toNat≤57:=p4
    have p4a:¬ ((b.toNat:Nat):Int)≤57:=by omega
    have p4b:57 < b.toNat:=by omega
    have p4c:(57:Int) < (b.toNat:Nat):=by omega
    by_cases p5:b.toNat=64
    ·have p5a:((b.toNat:Nat):Int)=64:=by omega
     refine W_rE [0,3,58] ?_
     iterate 4 refine yq9 6 (by simp [p10,p1a,p1b,p1c,p30,p3a,p3b,p3c,p40,p4a,p4b,p4c,p5a];rfl) rfl ?_
     refine yw9 (by simp [p10,p1a,p1b,p1c,p30,p3a,p3b,p3c,p40,p4a,p4b,p4c,p5a];rfl) ?_
     simp [yj9,okB,okC,p10,p1a,p1b,p1c,p30,p3a,p3b,p3c,p40,p4a,p4b,p4c,p5a]
    have p50:¬ b.toNat=64:=p5
    have p5a:¬ ((b.toNat:Nat):Int)=64:=by omega
    have p5b:(((b.toNat:Nat):Int) == 64)=false:=beq_eq_false_iff_ne.2 (by omega)
    by_cases p6:b.toNat=35
    ·have p6a:((b.toNat:Nat):Int)=35:=by omega
     refine W_rE [0,3,58] ?_
     iterate 4 refine yq9 6 (by simp [p10,p1a,p1b,p1c,p30,p3a,p3b,p3c,p40,p4a,p4b,p4c,p50,p5a,p5b,p6a];rfl) rfl ?_
     refine yw9 (by simp [p10,p1a,p1b,p1c,p30,p3a,p3b,p3c,p40,p4a,p4b,p4c,p50,p5a,p5b,p6a];rfl) ?_
     simp [yj9,okB,okC,p10,p1a,p1b,p1c,p30,p3a,p3b,p3c,p40,p4a,p4b,p4c,p50,p5a,p5b,p6a]
    have p60:¬ b.toNat=35:=p6
    have p6a:¬ ((b.toNat:Nat):Int)=35:=by omega
    have p6b:(((b.toNat:Nat):Int) == 35)=false:=beq_eq_false_iff_ne.2 (by omega)
    by_cases p7:b.toNat=36
    ·have p7a:((b.toNat:Nat):Int)=36:=by omega
     refine W_rE [0,3,58] ?_
     iterate 4 refine yq9 6 (by simp [p10,p1a,p1b,p1c,p30,p3a,p3b,p3c,p40,p4a,p4b,p4c,p50,p5a,p5b,p60,p6a,p6b,p7a];rfl) rfl ?_
     refine yw9 (by simp [p10,p1a,p1b,p1c,p30,p3a,p3b,p3c,p40,p4a,p4b,p4c,p50,p5a,p5b,p60,p6a,p6b,p7a];rfl) ?_
     simp [yj9,okB,okC,p10,p1a,p1b,p1c,p30,p3a,p3b,p3c,p40,p4a,p4b,p4c,p50,p5a,p5b,p60,p6a,p6b,p7a]
    have p70:¬ b.toNat=36:=p7
    have p7a:¬ ((b.toNat:Nat):Int)=36:=by omega
    have p7b:(((b.toNat:Nat):Int) == 36)=false:=beq_eq_false_iff_ne.2 (by omega)
    refine W_rE [0,3,58] ?_
    iterate 4 refine yq9 6 (by simp [p10,p1a,p1b,p1c,p30,p3a,p3b,p3c,p40,p4a,p4b,p4c,p50,p5a,p5b,p60,p6a,p6b,p70,p7a,p7b];rfl) rfl ?_
    refine yw9 (by simp [p10,p1a,p1b,p1c,p30,p3a,p3b,p3c,p40,p4a,p4b,p4c,p50,p5a,p5b,p60,p6a,p6b,p70,p7a,p7b];rfl) ?_
    simp [yj9,okB,okC,p10,p1a,p1b,p1c,p30,p3a,p3b,p3c,p40,p4a,p4b,p4c,p50,p5a,p5b,p60,p6a,p6b,p70,p7a,p7b]
   have p30:¬ 48≤b.toNat:=p3
   have p3a:¬ (48:Int)≤(b.toNat:Nat):=by omega
   have p3b:b.toNat < 48:=by omega
   have p3c:((b.toNat:Nat):Int) < 48:=by omega
   by_cases p5:b.toNat=64
   ·have p5a:((b.toNat:Nat):Int)=64:=by omega
    refine W_rE [0,3,58] ?_
    iterate 4 refine yq9 6 (by simp [p10,p1a,p1b,p1c,p30,p3a,p3b,p3c,p5a];rfl) rfl ?_
    refine yw9 (by simp [p10,p1a,p1b,p1c,p30,p3a,p3b,p3c,p5a];rfl) ?_
    simp [yj9,okB,okC,p10,p1a,p1b,p1c,p30,p3a,p3b,p3c,p5a]
   have p50:¬ b.toNat=64:=p5
   have p5a:¬ ((b.toNat:Nat):Int)=64:=by omega
   have p5b:(((b.toNat:Nat):Int) == 64)=false:=beq_eq_false_iff_ne.2 (by omega)
   by_cases p6:b.toNat=35
   ·have p6a:((b.toNat:Nat):Int)=35:=by omega
    refine W_rE [0,3,58] ?_
    iterate 4 refine yq9 6 (by simp [p10,p1a,p1b,p1c,p30,p3a,p3b,p3c,p50,p5a,p5b,p6a];rfl) rfl ?_
    refine yw9 (by simp [p10,p1a,p1b,p1c,p30,p3a,p3b,p3c,p50,p5a,p5b,p6a];rfl) ?_
    simp [yj9,okB,okC,p10,p1a,p1b,p1c,p30,p3a,p3b,p3c,p50,p5a,p5b,p6a]
   have p60:¬ b.toNat=35:=p6
   have p6a:¬ ((b.toNat:Nat):Int)=35:=by omega
   have p6b:(((b.toNat:Nat):Int) == 35)=false:=beq_eq_false_iff_ne.2 (by omega)
   by_cases p7:b.toNat=36
   ·have p7a:((b.toNat:Nat):Int)=36:=by omega
    refine W_rE [0,3,58] ?_
    iterate 4 refine yq9 6 (by simp [p10,p1a,p1b,p1c,p30,p3a,p3b,p3c,p50,p5a,p5b,p60,p6a,p6b,p7a];rfl) rfl ?_
    refine yw9 (by simp [p10,p1a,p1b,p1c,p30,p3a,p3b,p3c,p50,p5a,p5b,p60,p6a,p6b,p7a];rfl) ?_
    simp [yj9,okB,okC,p10,p1a,p1b,p1c,p30,p3a,p3b,p3c,p50,p5a,p5b,p60,p6a,p6b,p7a]
   have p70:¬ b.toNat=36:=p7
   have p7a:¬ ((b.toNat:Nat):Int)=36:=by omega
   have p7b:(((b.toNat:Nat):Int) == 36)=false:=beq_eq_false_iff_ne.2 (by omega)
   refine W_rE [0,3,58] ?_
   iterate 4 refine yq9 6 (by simp [p10,p1a,p1b,p1c,p30,p3a,p3b,p3c,p50,p5a,p5b,p60,p6a,p6b,p70,p7a,p7b];rfl) rfl ?_
   refine yw9 (by simp [p10,p1a,p1b,p1c,p30,p3a,p3b,p3c,p50,p5a,p5b,p60,p6a,p6b,p70,p7a,p7b];rfl) ?_
   simp [yj9,okB,okC,p10,p1a,p1b,p1c,p30,p3a,p3b,p3c,p50,p5a,p5b,p60,p6a,p6b,p70,p7a,p7b]
  rintro _ rfl
  by_cases ho:okB b=true
  ·rw [ho]
   refine yp9 rfl (fun h=>by simp at h) (fun h=>?_)
   refine yk9 ?_
   refine zq9 [0,3] (by simp [wi];rfl) ?_
   exact ⟨_,by omega,i+1,rfl,by omega,by rw [List.take_add_one,hb];simp [ho];simpa using hall,by simp⟩
  have hof:okB b=false:=by simpa using ho
  rw [hof]
  refine yp9 rfl (fun h=>?_) (fun h=>by simp at h)
  refine yt9 [2] (by simp;rfl) ?_
  refine yn9 ?_
  repeat (first | refine yg9 ?_ | refine yh9 ?_)
  have hna:l.all okB=false:=by
   rw [List.all_eq_false]
   exact ⟨b,List.mem_of_getElem? hb,by simp [hof]⟩
  simp [retQ,vs6,hna]
 have hie:i=l.length:=by omega
 refine W_cF [0,3,26] (by simp [c];rfl) rfl ?_
 refine zj9 ?_
 refine yt9 [2] (by simp;rfl) ?_
 refine yn9 ?_
 repeat (first | refine yg9 ?_ | refine yh9 ?_)
 have ha:l.all okB=true:=by rw [hie,List.take_length] at hall;exact hall
 simp [retQ,vs6,ha,hrf]
def cov (r:Rlo) (s:Seg):Bool:=decide (s.frm≤r.at_)&&decide (r.at_+r.len≤s.frm+s.len)
def ixS (p : Seg → Bool) : Nat → List Seg → Int
 | _,[]=>-1
 | i,s :: l=>if p s=true then i else ixS p (i+1) l
theorem uf4 (p : Seg → Bool) : ∀ (l : List Seg) (i : Nat), decide (0 ≤ ixS p i l) = l.any p
 | [],i=>by simp [ixS]
 | s :: l,i=>by
  rw [ixS,List.any_cons]
  by_cases h:p s=true
  ·simp [h]
  ·rw [if_neg h,uf4 p l (i+1)];simp [h]
def sOk (s:Seg):Prop:=0≤s.frm∧s.frm≤1000000000000000000∧0≤s.len∧s.len≤65536
def rOk (r:Rlo):Prop:=0≤r.at_∧r.at_≤1000000000000000000∧1≤r.len∧r.len≤4
abbrev HR (m:LMod) (r:Rlo):List AObj:=[.cells 76 (lmC m),.cells 123 [.v (.int .i64 r.at_),.v (.int .i64 r.len),.v (.bool r.neg)]]
theorem xw5 (m:LMod) (r:Rlo) (s:Seg) (hs:sOk s) (hr:rOk r):wf9 Tryz.prog 61 [segA s,.loc 1 0] (HR m r) (fun v h=>v=.v (.bool (cov r s))∧h=HR m r):=by
 obtain ⟨s1,s2,s3,s4⟩:=hs
 obtain ⟨r1,r2,r3,r4⟩:=hr
 refine zv9 Tryz.func61 rfl (by decide +kernel) (by simp [Tryz.f61]) (rs:=[.tmp 3]) rfl ?_
 rw [show Tryz.f61.ntmps=22 from rfl]
 have w1:IntKind.i64.wrap (r.at_+r.len)=r.at_+r.len:=w64 (by omega) (by omega)
 have w2:IntKind.i64.wrap (s.frm+s.len)=s.frm+s.len:=w64 (by omega) (by omega)
 simp only [HR,lmC]
 refine yt9 [1,2] (by simp;rfl) ?_
 by_cases c1:s.frm≤r.at_
 ·by_cases c2 : r.at_ + r.len ≤ s.frm + s.len
  ·refine W_rK [3] ?_
   iterate 3 refine yq9 6 (by simp [w1,w2,c1,c2];rfl) rfl ?_
   refine yw9 (by simp [w1,w2,c1,c2];rfl) ?_
   refine yn9 ?_
   repeat (first | refine yg9 ?_ | refine yh9 ?_)
   exact xd9 2 (by simp [resA];rfl) (by simp) (by simp) (by simp [AV.under,AV.underL,yc9,AObj.under]) (by simp [cov,c1,c2])
  refine W_rK [3] ?_
  iterate 3 refine yq9 6 (by simp [w1,w2,c1,c2];rfl) rfl ?_
  refine yw9 (by simp [w1,w2,c1,c2];rfl) ?_
  refine yn9 ?_
  repeat (first | refine yg9 ?_ | refine yh9 ?_)
  exact xd9 2 (by simp [resA];rfl) (by simp) (by simp) (by simp [AV.under,AV.underL,yc9,AObj.under]) (by simp [cov,c1,c2])
 refine W_rK [3] ?_
 iterate 3 refine yq9 6 (by simp [w1,w2,c1];rfl) rfl ?_
 refine yw9 (by simp [w1,w2,c1];rfl) ?_
 refine yn9 ?_
 repeat (first | refine yg9 ?_ | refine yh9 ?_)
 exact xd9 2 (by simp [resA];rfl) (by simp) (by simp) (by simp [AV.under,AV.underL,yc9,AObj.under]) (by simp [cov,c1])
theorem yv4 (m:LMod) (r:Rlo) (hl:m.seg.length≤100000) (hs:∀ s∈m.seg,sOk s) (hr:rOk r):wf9 Tryz.prog 82 [.lst .any 4 (sgL m.seg),.fn (.func 61) [] [.loc 1 0]] (HR m r) (fun v h=>v=.v (.int .i64 (ixS (cov r) 0 m.seg))∧h=HR m r):=by
 refine zv9 Tryz.func82 rfl (by decide +kernel) (by simp [Tryz.f82]) (rs:=[.tmp 4]) rfl ?_
 rw [show Tryz.f82.ntmps=19 from rfl]
 refine yt9 [0,1] (by simp;rfl) ?_
 refine yl9 ?_
 refine yt9 [0,1,7,8] (by simp;rfl) ?_
 refine ys9 ?_
 refine zl9 (fun k σ=>∃ i:Nat,k=m.seg.length - i∧i≤m.seg.length∧ixS (cov r) i (m.seg.drop i)=ixS (cov r) 0 m.seg∧σ=⟨19,[(0,.lst .any 4 (sgL m.seg)),(1,.fn (.func 61) [] [.loc 1 0]),(7,.v (.int .i64 (m.seg.length:Nat))),(8,.v (.int .i64 (i:Nat)))],HR m r⟩) (k:=m.seg.length) ⟨0,rfl,by omega,rfl,by simp⟩ ?_
 rintro k σ ⟨i,rfl,hi,hix,rfl⟩
 by_cases c:i < m.seg.length
 ·have ci : (i : Int) < m.seg.length := by omega
  obtain ⟨s,hsi⟩:∃ s,m.seg[i]?=some s:=⟨_,List.getElem?_eq_getElem c⟩
  have hs2:m.seg[i]'c=s:=by rw [List.getElem?_eq_getElem c] at hsi;exact Option.some.inj hsi
  have hdr:m.seg.drop i=s :: m.seg.drop (i+1):=by rw [List.drop_eq_getElem_cons c,hs2]
  have wi:=w64 (n:=(i:Int)+1) (by omega) (by omega)
  rw [hdr,ixS] at hix
  refine yt9 [0,1,7,8,9] (by simp [c];rfl) ?_
  refine yl9 ?_
  refine yp9 rfl (fun h=>?_) (fun h=>by simp at h)
  refine yk9 ?_
  refine yl9 ?_
  refine ys9 ?_
  refine yt9 [0,1,7,8,5] (by simp;rfl) ?_
  refine W_rK [0,1,7,8,5,16] ?_
  refine yq9 5 (by simp [c,ci,hs2];rfl) rfl ?_
  refine zr9 (by simp) (by first | (simp [yb9,zt9];done) | (simp [yb9,zt9];rfl)) ((xw5 m r s (hs s (List.mem_of_getElem? hsi)) hr).mono ?_)
  rintro _ _ ⟨rfl,rfl⟩
  refine ⟨_,rfl,?_⟩
  refine yw9 (by simp;rfl) ?_
  by_cases hc:cov r s=true
  ·rw [if_pos hc] at hix
   refine yp9 (t:=true) (by simp [hc]) (fun h=>?_) (fun h=>by simp at h)
   refine yt9 [4] (by simp;rfl) ?_
   refine yn9 ?_
   repeat (first | refine yg9 ?_ | refine yh9 ?_)
   refine jg8 (by simp [resA];rfl) (by simp) (by simp [AV.under,AV.underL,yc9,AObj.under,lmC]) ⟨by simp [← hix],rfl⟩
  rw [if_neg hc] at hix
  refine yp9 (t:=false) (by simp [hc]) (fun h=>by simp at h) (fun h=>?_)
  refine yk9 ?_
  refine zq9 [0,1,7,8] (by simp [wi];rfl) ?_
  exact ⟨_,by omega,i+1,rfl,by omega,hix,by simp⟩
 have hie:i=m.seg.length:=by omega
 rw [hie,List.drop_length,ixS] at hix
 refine yt9 [0,1,7,8,9] (by simp [c];rfl) ?_
 refine yl9 ?_
 refine yp9 rfl (fun h=>by simp at h) (fun h=>?_)
 refine zj9 ?_
 refine yt9 [4] (by simp;rfl) ?_
 refine yn9 ?_
 repeat (first | refine yg9 ?_ | refine yh9 ?_)
 refine jg8 (by simp [resA];rfl) (by simp) (by simp [AV.under,AV.underL,yc9,AObj.under,lmC]) ⟨by simp [← hix],rfl⟩
theorem zc4 (m:LMod) (r:Rlo) (hl:m.seg.length≤100000) (hs:∀ s∈m.seg,sOk s) (hr:rOk r):wf9 Tryz.prog 60 [.lst .any 4 (sgL m.seg),.fn (.func 61) [] [.loc 1 0]] (HR m r) (fun v h=>v=.v (.bool (m.seg.any (cov r)))∧h=HR m r):=by
 refine zv9 Tryz.func60 rfl (by decide +kernel) (by simp [Tryz.f60]) (rs:=[.tmp 4]) rfl ?_
 rw [show Tryz.f60.ntmps=9 from rfl]
 refine yt9 [0,1] (by simp;rfl) ?_
 refine W_rK [4] ?_
 refine yq9 2 (by simp;rfl) rfl ?_
 refine zr9 (by simp) (by first | (simp [yb9,zt9];done) | (simp [yb9,zt9];rfl)) ((yv4 m r hl hs hr).mono ?_)
 rintro _ _ ⟨rfl,rfl⟩
 refine ⟨_,rfl,?_⟩
 refine yw9 (by simp;rfl) ?_
 refine yn9 ?_
 repeat (first | refine yg9 ?_ | refine yh9 ?_)
 refine jg8 (by simp [resA];rfl) (by simp) (by simp [AV.under,AV.underL,yc9,AObj.under,lmC]) ⟨by simp [← uf4 (cov r) m.seg 0],rfl⟩
theorem qb7 {l0 : List Seg} : ∀ (l : List Seg) (i : Nat) (fr e : Int), yn7 l0 i l fr = some e → 0 ≤ fr → fr ≤ e ∧ ∀ s ∈ l, 0 ≤ s.frm ∧ s.frm ≤ e ∧ 0 ≤ s.len ∧ s.len ≤ 65536
 | [],i,fr,e,h,h0=>by
  rw [yn7] at h
  injection h with h
  exact ⟨by omega,by simp⟩
 | s :: l,i,fr,e,h,h0=>by
  rw [yn7] at h
  split at h
  ·cases h
  rename_i h1
  split at h
  ·cases h
  obtain ⟨b1,b2,b3,b4,b5⟩:=wc5 (by simpa using h1)
  obtain ⟨k1,k2⟩:=qb7 l (i+1) (fr+s.len) e h (by omega)
  refine ⟨by omega,fun t ht=>?_⟩
  rcases List.mem_cons.1 ht with rfl | ht
  ·exact ⟨by omega,by omega,by omega,by omega⟩
  ·exact k2 t ht
theorem vl6 {m:LMod} (h:segM m=true) (ht:m.text.length≤1000000000000000000):1≤m.seg.length∧m.seg.length≤64∧∀ s∈m.seg,sOk s:=by
 rw [segM] at h
 cases hg:yn7 m.seg 0 m.seg 0 with
 | none=>rw [hg] at h;cases h
 | some e =>
  rw [hg] at h
  simp only [segF,Bool.and_eq_true,decide_eq_true_eq] at h
  obtain ⟨h1,h2,h3⟩:=h
  obtain ⟨k1,k2⟩:=qb7 m.seg 0 0 e hg (by omega)
  refine ⟨h1,h2,fun s hs=>?_⟩
  obtain ⟨q1,q2,q3,q4⟩:=k2 s hs
  exact ⟨q1,by omega,q3,q4⟩
def ckB (m:LMod):Bool:=!segM m || (decide (8192 < m.rel.length) || (decide (m.entry < 0) || decide ((paS m.seg 0).len≤m.entry)))
def rl1 (m:LMod) (past:Int) (r:Rlo):Bool:=decide (r.at_ < past) || (decide ((m.text.length:Int) < r.at_) || (decide (r.len < 1) || decide (4 < r.len)))
def uw6 (m : LMod) : List Rlo → Int → Bool
 | [],_=>true
 | r :: l,past=>if rl1 m past r=true then false else if m.seg.any (cov r)=false then false else uw6 m l (r.at_+r.len)
def ckM (m:LMod):Bool:=!ckB m&&uw6 m m.rel 0
theorem qj8 (m:LMod) (hl:m.seg.length≤100000) (ht:m.text.length≤1000000000000000000) (hrl:m.rel.length≤1000000000):Sound Tryz.prog 29 [lmA m] (.v (.int .i64 (if ckM m=true then 0 else 310))):=by
 refine zh9 Tryz.func29 rfl (by decide +kernel) (by simp [Tryz.f29]) rfl rfl (rs:=[.tmp 2]) rfl ?_
 rw [show Tryz.f29.ntmps=70 from rfl]
 refine yt9 [1] (by simp;rfl) ?_
 refine yl9 ?_
 refine ws9 (fun σ=>σ=⟨70,[(1,.loc 0 0),(29,.v (.bool (ckB m)))],[.cells 76 (lmC m)]⟩) ?_ ?_
 ·by_cases a1 : segM m = true
  ·have a1t : segM m = true := a1
   have a1s:1≤m.seg.length:=(vl6 a1 ht).1
   have a1p:0 < m.seg.length:=a1s
   have a1q:(0:Int) < m.seg.length:=by omega
   obtain ⟨s0,hs0⟩:∃ s,m.seg[0]?=some s:=⟨_,List.getElem?_eq_getElem a1p⟩
   have hs0g:m.seg[0]=s0:=by rw [List.getElem?_eq_getElem a1p] at hs0;exact Option.some.inj hs0
   by_cases a2:m.rel.length≤8192
   ·have a20 : m.rel.length ≤ 8192 := a2
    have a2a:((m.rel.length:Nat):Int)≤8192:=by omega
    have a2b:¬ 8192 < m.rel.length:=by omega
    have a2c:¬ (8192:Int) < (m.rel.length:Nat):=by omega
    by_cases a3:m.entry < 0
    ·refine qt9 [1,29] mx (by decide +kernel) ?_
     refine yr9 1 (by simp;rfl) rfl ?_
     refine zw9 (by simp) (by first | (simp;done) | (simp;rfl)) (qb9 m hl (by omega)) (by simp;rfl) ?_
     iterate 3 refine yr9 6 (by simp [lmC,a1t,a1s,a1p,a1q,hs0,hs0g,a20,a2a,a2b,a2c,a3];rfl) rfl ?_
     refine ym9 (by simp [lmC,a1t,a1s,a1p,a1q,hs0,hs0g,a20,a2a,a2b,a2c,a3];rfl) ?_
     simp [yj9,ckB,paS,lmC,a1t,a1s,a1p,a1q,hs0,hs0g,a20,a2a,a2b,a2c,a3]
    by_cases a4:s0.len≤m.entry
    ·refine qt9 [1,29] mx (by decide +kernel) ?_
     refine yr9 1 (by simp;rfl) rfl ?_
     refine zw9 (by simp) (by first | (simp;done) | (simp;rfl)) (qb9 m hl (by omega)) (by simp;rfl) ?_
     iterate 3 refine yr9 6 (by simp [lmC,a1t,a1s,a1p,a1q,hs0,hs0g,a20,a2a,a2b,a2c,a3,a4];rfl) rfl ?_
     refine ym9 (by simp [lmC,a1t,a1s,a1p,a1q,hs0,hs0g,a20,a2a,a2b,a2c,a3,a4];rfl) ?_
     simp [yj9,ckB,paS,lmC,a1t,a1s,a1p,a1q,hs0,hs0g,a20,a2a,a2b,a2c,a3,a4]
    have a4n:m.entry < s0.len:=by omega
    have a4m:¬ s0.len≤m.entry:=a4
    refine qt9 [1,29] mx (by decide +kernel) ?_
    refine yr9 1 (by simp;rfl) rfl ?_
    refine zw9 (by simp) (by first | (simp;done) | (simp;rfl)) (qb9 m hl (by omega)) (by simp;rfl) ?_
    iterate 3 refine yr9 6 (by simp [lmC,a1t,a1s,a1p,a1q,hs0,hs0g,a20,a2a,a2b,a2c,a3,a4n,a4m];rfl) rfl ?_
    refine ym9 (by simp [lmC,a1t,a1s,a1p,a1q,hs0,hs0g,a20,a2a,a2b,a2c,a3,a4n,a4m];rfl) ?_
    simp [yj9,ckB,paS,lmC,a1t,a1s,a1p,a1q,hs0,hs0g,a20,a2a,a2b,a2c,a3,a4n,a4m]
   have a20:¬ m.rel.length≤8192:=a2
   have a2a:¬ ((m.rel.length:Nat):Int)≤8192:=by omega
   have a2b:8192 < m.rel.length:=by omega
   have a2c:(8192:Int) < (m.rel.length:Nat):=by omega
   refine qt9 [1,29] mx (by decide +kernel) ?_
   refine yr9 1 (by simp;rfl) rfl ?_
   refine zw9 (by simp) (by first | (simp;done) | (simp;rfl)) (qb9 m hl (by omega)) (by simp;rfl) ?_
   iterate 3 refine yr9 6 (by simp [lmC,a1t,a1s,a1p,a1q,hs0,hs0g,a20,a2a,a2b,a2c];rfl) rfl ?_
   refine ym9 (by simp [lmC,a1t,a1s,a1p,a1q,hs0,hs0g,a20,a2a,a2b,a2c];rfl) ?_
   simp [yj9,ckB,paS,lmC,a1t,a1s,a1p,a1q,hs0,hs0g,a20,a2a,a2b,a2c]
  have a1f:segM m=false:=by simpa using a1
  refine qt9 [1,29] mx (by decide +kernel) ?_
  refine yr9 1 (by simp;rfl) rfl ?_
  refine zw9 (by simp) (by first | (simp;done) | (simp;rfl)) (qb9 m hl (by omega)) (by simp;rfl) ?_
  iterate 3 refine yr9 6 (by simp [lmC,a1f];rfl) rfl ?_
  refine ym9 (by simp [lmC,a1f];rfl) ?_
  simp [yj9,ckB,paS,lmC,a1f]
 rintro _ rfl
 by_cases hB:ckB m=true
 ·rw [hB]
  refine yp9 rfl (fun h=>?_) (fun h=>by simp at h)
  refine yt9 [2] (by simp;rfl) ?_
  refine yn9 ?_
  repeat (first | refine yg9 ?_ | refine yh9 ?_)
  simp [retQ,ckM,hB]
 have hBf:ckB m=false:=by simpa using hB
 have hsg:segM m=true:=by
  simp only [ckB,Bool.or_eq_false_iff,Bool.not_eq_false'] at hBf
  exact hBf.1
 obtain ⟨g1,g2,hsok⟩:=vl6 hsg ht
 rw [hBf]
 refine yp9 rfl (fun h=>by simp at h) (fun h=>?_)
 refine yk9 ?_
 refine yt9 [1,3] (by simp;rfl) ?_
 refine yl9 ?_
 refine yt9 [1,3,31,32,33] (by simp [lmC];rfl) ?_
 refine ys9 ?_
 obtain ⟨R,hR⟩:∃ R,uw6 m m.rel 0=R:=⟨_,rfl⟩
 have hS:ckM m=R:=by rw [ckM,hBf,hR];rfl
 refine zl9 (fun k σ=>∃ (i:Nat) (past:Int),k=m.rel.length - i∧i≤m.rel.length∧uw6 m (m.rel.drop i) past=R∧0≤past∧σ=⟨70,[(1,.loc 0 0),(3,.v (.int .i64 past)),(31,.lst .any 3 (rlL m.rel)),(32,.v (.int .i64 (m.rel.length:Nat))),(33,.v (.int .i64 (i:Nat)))],[.cells 76 (lmC m)]⟩) (k:=m.rel.length) ⟨0,0,rfl,by omega,hR,by omega,by simp [lmC]⟩ ?_
 rintro k σ ⟨i,past,rfl,hi,hgo,hp0,rfl⟩
 by_cases c:i < m.rel.length
 ·have ci : (i : Int) < m.rel.length := by omega
  obtain ⟨r,hri⟩:∃ r,m.rel[i]?=some r:=⟨_,List.getElem?_eq_getElem c⟩
  have hr2:m.rel[i]'c=r:=by rw [List.getElem?_eq_getElem c] at hri;exact Option.some.inj hri
  have hdr:m.rel.drop i=r :: m.rel.drop (i+1):=by rw [List.drop_eq_getElem_cons c,hr2]
  have wi:=w64 (n:=(i:Int)+1) (by omega) (by omega)
  rw [hdr,uw6] at hgo
  have hret:R=false→∀ (h:List AObj),retQ Tryz.prog [.tmp 2] (.v (.int .i64 (if ckM m=true then 0 else 310))) .ret ⟨70,[(2,.v (.int .i64 310))],h⟩:=by
   intro hR0 h
   simp [retQ,hS,hR0]
  refine yt9 [1,3,31,32,33,34] (by simp [c];rfl) ?_
  refine yl9 ?_
  refine yp9 rfl (fun h=>?_) (fun h=>by simp at h)
  refine yk9 ?_
  refine yl9 ?_
  refine ys9 ?_
  refine yt9 [1,3,31,32,33,5] (by simp [c,ci,hr2,lmC,yf9,AV.weakL,AV.weak,AV.koneL,AV.kone];rfl) ?_
  refine yl9 ?_
  refine ws9 (fun σ=>σ=⟨70,[(1,.loc 0 0),(3,.v (.int .i64 past)),(31,.lst .any 3 (rlL m.rel)),(32,.v (.int .i64 (m.rel.length:Nat))),(33,.v (.int .i64 (i:Nat))),(5,.loc 1 0),(58,.v (.bool (rl1 m past r)))],HR m r⟩) ?_ ?_
  ·by_cases b1 : r.at_ < past
   ·refine W_rE [1,3,31,32,33,5,58] ?_
    iterate 3 refine yq9 6 (by simp [lmC,b1];rfl) rfl ?_
    refine yw9 (by simp [lmC,b1];rfl) ?_
    simp [yj9,rl1,lmC,b1]
   by_cases b2:(m.text.length:Int) < r.at_
   ·refine W_rE [1,3,31,32,33,5,58] ?_
    iterate 3 refine yq9 6 (by simp [lmC,b1,b2];rfl) rfl ?_
    refine yw9 (by simp [lmC,b1,b2];rfl) ?_
    simp [yj9,rl1,lmC,b1,b2]
   by_cases b3:r.len < 1
   ·refine W_rE [1,3,31,32,33,5,58] ?_
    iterate 3 refine yq9 6 (by simp [lmC,b1,b2,b3];rfl) rfl ?_
    refine yw9 (by simp [lmC,b1,b2,b3];rfl) ?_
    simp [yj9,rl1,lmC,b1,b2,b3]
   by_cases b4:4 < r.len
   ·refine W_rE [1,3,31,32,33,5,58] ?_
    iterate 3 refine yq9 6 (by simp [lmC,b1,b2,b3,b4];rfl) rfl ?_
    refine yw9 (by simp [lmC,b1,b2,b3,b4];rfl) ?_
    simp [yj9,rl1,lmC,b1,b2,b3,b4]
   refine W_rE [1,3,31,32,33,5,58] ?_
   iterate 3 refine yq9 6 (by simp [lmC,b1,b2,b3,b4];rfl) rfl ?_
   refine yw9 (by simp [lmC,b1,b2,b3,b4];rfl) ?_
   simp [yj9,rl1,lmC,b1,b2,b3,b4]
  rintro _ rfl
  by_cases h1:rl1 m past r=true
  ·rw [if_pos h1] at hgo
   rw [h1]
   refine yp9 rfl (fun h=>?_) (fun h=>by simp at h)
   refine yt9 [2] (by simp;rfl) ?_
   refine yn9 ?_
   repeat (first | refine yg9 ?_ | refine yh9 ?_)
   exact hret hgo.symm _
  have h1f:rl1 m past r=false:=by simpa using h1
  rw [if_neg h1] at hgo
  have hrb:=h1f
  simp only [rl1,Bool.or_eq_false_iff,decide_eq_false_iff_not] at hrb
  obtain ⟨b1,b2,b3,b4⟩:=hrb
  have hrok:rOk r:=⟨by omega,by omega,by omega,by omega⟩
  rw [h1f]
  refine yp9 rfl (fun h=>by simp at h) (fun h=>?_)
  refine yk9 ?_
  refine yl9 ?_
  refine W_rK [1,3,31,32,33,5,63] ?_
  refine yq9 3 (by simp [lmC,AV.weakL,AV.weak];rfl) rfl ?_
  refine zr9 (by simp) (by first | (simp [yb9,zt9];done) | (simp [yb9,zt9];rfl)) ((zc4 m r hl hsok hrok).mono ?_)
  rintro _ _ ⟨rfl,rfl⟩
  refine ⟨_,rfl,?_⟩
  refine yw9 (by simp;rfl) ?_
  by_cases h2:m.seg.any (cov r)=false
  ·rw [if_pos h2] at hgo
   refine yp9 (t:=true) (by simp [h2]) (fun h=>?_) (fun h=>by simp at h)
   refine yt9 [2] (by simp;rfl) ?_
   refine yn9 ?_
   repeat (first | refine yg9 ?_ | refine yh9 ?_)
   exact hret hgo.symm _
  rw [if_neg h2] at hgo
  have h2t:m.seg.any (cov r)=true:=by simpa using h2
  have w7:IntKind.i64.wrap (r.at_+r.len)=r.at_+r.len:=w64 (by omega) (by omega)
  refine yp9 (t:=false) (by simp [h2t]) (fun h=>by simp at h) (fun h=>?_)
  refine yk9 ?_
  refine zq9 [1,3,31,32,33] (by simp [w7];rfl) ?_
  refine xp9 1 (Nat.zero_le _) (by simp) (by simp [yv9,AV.under,AV.underL]) (by simp [yc9,AObj.under,lmC,AV.under,AV.underL]) ?_
  refine zq9 [1,3,31,32,33] (by simp [wi];rfl) ?_
  exact ⟨_,by omega,i+1,r.at_+r.len,rfl,by omega,hgo,by omega,by simp [lmC]⟩
 have hie:i=m.rel.length:=by omega
 rw [hie,List.drop_length,uw6] at hgo
 refine yt9 [1,3,31,32,33,34] (by simp [c];rfl) ?_
 refine yl9 ?_
 refine yp9 rfl (fun h=>by simp at h) (fun h=>?_)
 refine zj9 ?_
 refine yt9 [2] (by simp;rfl) ?_
 refine yn9 ?_
 repeat (first | refine yg9 ?_ | refine yh9 ?_)
 simp [retQ,hS,← hgo]
def sA (s:Seg):Bool:=!decide (s.par=-1) || (!decide (s.org=0) || decide (s.len < 1))
def sB (l:List Seg) (i:Nat) (s:Seg):Bool:=decide (s.par < 0) || (decide ((i:Int)≤s.par) || decide (s.org < (paS l s.par).org+(paS l s.par).len))
theorem seg2_eq (l:List Seg) (i:Nat) (s:Seg):seg2 l i s=if i=0 then sA s else sB l i s:=rfl
theorem kh6 {c:Code} {Q:Exit→St→Prop} {s:St} {top:Bool} {kf:Nat} {P:Program} (K:St→Prop) (h1:Wt top kf P c (yj9 K fun _ _=>False) s) (h2:∀ s,K s→Q .normal s):Wt top kf P c Q s:=by
 refine h1.mono fun e s h=>?_
 cases e with
 | normal=>exact h2 s h
 | _=>exact h.elim
def rl2 (m:LMod) (i:Nat) (past:Int) (r:Rlo):Bool:=decide (r.len < 1) || (decide (4 < r.len) || (decide (r.at_ < 0) || (decide ((m.text.length:Int) < r.at_) || (decide (0 < i)&&decide (r.at_ < past)))))
def segR (s:Seg):List UInt8:=numM 2 (s.par+1).toNat++(numM 4 s.org.toNat++(numM 4 s.frm.toNat++numM 4 s.len.toNat))
def yv5 (m:LMod):List UInt8:=1 :: (numM 4 m.entry.toNat++numM 2 m.seg.length)
def wt5 (t : List UInt8) : Nat → Nat → List (List UInt8)
 | 0,_=>[]
 | f+1,i=>if i < t.length then (2 :: (numM 4 i++(t.drop i).take 1000)) :: wt5 t f (i+1000) else []
def rloR (r:Rlo):List UInt8:=numM 4 r.at_.toNat++[UInt8.ofNat (r.len.toNat+if r.neg=true then 128 else 0)]
def rlR (l:List Rlo):List UInt8:=3 :: l.flatMap rloR
def wm5 (l : List Rlo) : Nat → Nat → List (List UInt8)
 | 0,_=>[]
 | f+1,i=>if i < l.length then rlR ((l.drop i).take 200) :: wm5 l f (i+200) else []
def endR (m:LMod):List UInt8:=4 :: (numM 4 m.text.length++numM 4 m.rel.length)
def encL (m:LMod):List (List UInt8):=[yv5 m++m.seg.flatMap segR]++(wt5 m.text m.text.length 0++(wm5 m.rel m.rel.length 0++[endR m]))
theorem xc6 {l0 : List Seg} : ∀ (l : List Seg) (i : Nat) (fr e : Int), yn7 l0 i l fr = some e → ∀ s ∈ l, -1 ≤ s.par ∧ s.par ≤ i + l.length ∧ 0 ≤ s.org ∧ s.org ≤ 65536
 | [],i,fr,e,h=>by simp
 | s :: l,i,fr,e,h=>by
  rw [yn7] at h
  split at h
  ·cases h
  rename_i h1
  split at h
  ·cases h
  rename_i h2
  obtain ⟨b1,b2,b3,b4,b5⟩:=wc5 (by simpa using h1)
  intro t ht
  rcases List.mem_cons.1 ht with rfl | ht
  ·refine ⟨?_, ?_, by omega, by omega⟩
   all_goals
    rw [seg2_eq] at h2
    by_cases h0:i=0
    ·rw [if_pos h0] at h2
     simp [sA] at h2
     first | omega | (simp only [List.length_cons];omega)
    ·rw [if_neg h0] at h2
     simp [sB] at h2
     first | omega | (simp only [List.length_cons];omega)
  ·have:=xc6 l (i+1) (fr+s.len) e h t ht
   simp
   omega
theorem jb6 {m : LMod} : ∀ (l : List Rlo) (past : Int), uw6 m l past = true → 0 ≤ past → ∀ r ∈ l, 0 ≤ r.at_ ∧ r.at_ ≤ m.text.length ∧ 1 ≤ r.len ∧ r.len ≤ 4
 | [],past,h,h0=>by simp
 | r :: l,past,h,h0=>by
  rw [uw6] at h
  split at h
  ·cases h
  rename_i h1
  split at h
  ·cases h
  have h1f:rl1 m past r=false:=by simpa using h1
  simp only [rl1,Bool.or_eq_false_iff,decide_eq_false_iff_not] at h1f
  obtain ⟨b1,b2,b3,b4⟩:=h1f
  intro t ht
  rcases List.mem_cons.1 ht with rfl | ht
  ·exact ⟨by omega,by omega,by omega,by omega⟩
  ·exact jb6 l _ h (by omega) t ht
structure LOk (m:LMod):Prop where
 e0:0≤m.entry
 e1:m.entry≤1000000000000
 sg:∀ s∈m.seg,-1≤s.par∧s.par≤1000000000000∧0≤s.org∧s.org≤65536∧0≤s.frm∧s.frm≤1000000000000∧0≤s.len∧s.len≤65536
 rl:∀ r∈m.rel,0≤r.at_∧r.at_≤1000000000000∧1≤r.len∧r.len≤4
 ls:m.seg.length≤64
 lt:m.text.length≤1000000000
 lr:m.rel.length≤8192
theorem ckM_ok {m:LMod} (hck:ckM m=true) (ht:m.text.length≤1000000000):LOk m:=by
 have hBf:ckB m=false:=by simp only [ckM,Bool.and_eq_true,Bool.not_eq_true'] at hck;exact hck.1
 have hre:uw6 m m.rel 0=true:=by simp only [ckM,Bool.and_eq_true,Bool.not_eq_true'] at hck;exact hck.2
 simp only [ckB,Bool.or_eq_false_iff,Bool.not_eq_false',decide_eq_false_iff_not] at hBf
 obtain ⟨hsg,h2,h3,h4⟩:=hBf
 have hx:=vl6 hsg (by omega)
 obtain ⟨g1,g2,hsok⟩:=hx
 have hgo:∃ e,yn7 m.seg 0 m.seg 0=some e:=by
  rw [segM] at hsg
  cases hg:yn7 m.seg 0 m.seg 0 with
  | none=>rw [hg] at hsg;cases hsg
  | some e=>exact ⟨e,rfl⟩
 obtain ⟨e,hgo⟩:=hgo
 have he:e=m.text.length:=by
  rw [segM,hgo] at hsg
  simp only [segF,Bool.and_eq_true,decide_eq_true_eq] at hsg
  exact hsg.2.2
 have hi:=qb7 m.seg 0 0 e hgo (by omega)
 have hi2:=xc6 m.seg 0 0 e hgo
 refine ⟨by omega,?_,fun s hs=>?_,fun r hr=>?_,g2,ht,by omega⟩
 ·obtain ⟨s0,hs0⟩:∃ s,m.seg[0]?=some s:=⟨_,List.getElem?_eq_getElem g1⟩
  have:=(hsok s0 (List.mem_of_getElem? hs0)).2.2.2
  simp [paS,hs0] at h4
  omega
 ·have k1:=hi.2 s hs
  have k2:=hi2 s hs
  exact ⟨k2.1,by omega,k2.2.2.1,k2.2.2.2,k1.1,by omega,k1.2.2.1,k1.2.2.2⟩
 ·have k:=jb6 m.rel 0 hre (by omega) r hr
  exact ⟨k.1,by omega,k.2.2.1,k.2.2.2⟩
theorem xn4 {t : List UInt8} : ∀ (f i : Nat), t.length ≤ i → wt5 t f i = []
 | 0,i,h=>rfl
 | f+1,i,h=>by rw [wt5,if_neg (by omega)]
theorem vr4 {l : List Rlo} : ∀ (f i : Nat), l.length ≤ i → wm5 l f i = []
 | 0,i,h=>rfl
 | f+1,i,h=>by rw [wm5,if_neg (by omega)]
theorem dropmin {α:Type} (l:List α) (i n:Nat):(l.take (min (i+n) l.length)).drop i=(l.drop i).take n:=by
 rw [List.drop_take]
 by_cases h:i+n≤l.length
 ·rw [Nat.min_eq_left h,Nat.add_sub_cancel_left]
 ·rw [Nat.min_eq_right (by omega),List.take_of_length_le (by simp),List.take_of_length_le (by simp;omega)]
theorem rlR_len (l:List Rlo):(rlR l).length=1+5 * l.length:=by
 unfold rlR
 induction l with
 | nil=>rfl
 | cons s l ih=>simp [rloR] at ih ⊢;omega
theorem ys3 (l:List Rlo) (r:Rlo):rlR (l++[r])=rlR l++rloR r:=by simp [rlR]
theorem u8v (n:Nat):IntKind.u8.wrap (n:Int)=((UInt8.ofNat n).toNat:Nat):=by
 rw [u8n];simp
theorem jn4 (l:List Seg):(l.flatMap segR).length=14 * l.length:=by
 induction l with
 | nil=>rfl
 | cons s l ih=>rw [List.flatMap_cons,List.length_append,ih];simp [segR];omega
theorem vv7 (L:List (List UInt8)):AV.plainL (bbL L)=bbL L:=by
 induction L with
 | nil=>rfl
 | cons b L ih=>rw [qq9];simp [AV.plainL,AV.plain,ih]
end Go.AM
